/- Two structures side by side, each in blocks of its own. -/
import Derived.Test.YtldnacphfoagnadSep
import Derived.Test.YtldnacphfoagnadChecked
import Derived.Test.YtldnacphfoagnadAfX
import Derived.Test.YtldnacphfoagnadAfY
import Derived.Test.YtldnacphfoagnadArcFacts
import Derived.Test.YtldnacphfoagnadArcShown
import Derived.Deep.QuietTactic
import Derived.BigQuiet
import Derived.Deep.DeepCutAuto
import Derived.Deep.RegionHeld3
namespace Go.Proofs.Ytldnacphfoagnad
open Go.RowKit
set_option linter.unusedVariables false
/-- A structure that stays where its blocks stay. -/
def Frm (P : World → (Nat → Prop) → Prop) : Prop := ∀ (w w' : World) (S : Nat → Prop), w.heap.size ≤ w'.heap.size → (∀ b, b < w.heap.size → S b → w'.heap[b]? = w.heap[b]?) → P w S → P w' S
def Two (A B : World → (Nat → Prop) → Prop) (w : World) (S : Nat → Prop) : Prop :=
  ∃ S1 S2 : Nat → Prop, (∀ b, S1 b → S b) ∧ (∀ b, S2 b → S b) ∧ (∀ b, S1 b → S2 b → False) ∧ A w S1 ∧ B w S2
theorem two_frm {A B : World → (Nat → Prop) → Prop} (hA : Frm A) (hB : Frm B) : Frm (Two A B) := fun w w' S hz hf ⟨S1, S2, h1, h2, h3, a, b⟩ =>
  ⟨S1, S2, h1, h2, h3, hA w w' S1 hz (fun b hb q => hf b hb (h1 b q)) a, hB w w' S2 hz (fun b hb q => hf b hb (h2 b q)) b⟩
section
variable {w0 w w' : World} {S : Nat → Prop} {P A B A' B' : World → (Nat → Prop) → Prop} {F : FuncId} {av : Array Value} {R : Ending → Prop}
theorem sep_keep (hP : Frm P) (h : Sep P w0 w S) {F : Nat → Prop} (hF : Fr F w w') (hd : ∀ b, b < w.heap.size → S b → ¬ F b) (h0 : ∀ b, b < w0.heap.size → ¬ F b) : Sep P w0 w' S :=
  h.keep hF hd h0 (fun hA hf => hP _ _ _ hF.size hf hA)
theorem sep_drewN (hP : Frm P) (h : Sep P w0 w S) (k : Nat) : Sep P w0 (w.drewN k) S := ⟨hP w (w.drewN k) S (Nat.le_refl _) (fun _ _ _ => rfl) h.at_, h.fr.drewN k, h.lo, h.hi⟩
theorem sep_drew (hP : Frm P) (h : Sep P w0 w S) : Sep P w0 w.drew S := ⟨hP w w.drew S (Nat.le_refl _) (fun _ _ _ => rfl) h.at_, h.fr.drew, h.lo, h.hi⟩
theorem sep_fr (hP : Frm P) (h : Sep P w0 w S) (hF : Fr (fun b => w.heap.size ≤ b) w w') : Sep P w0 w' S := sep_keep hP h hF (fun b hb _ => by omega) (fun b hb => by have := h.fr.size; omega)
theorem sep_held_set (hP : Frm P) {T : TypeId} {b off m cap : Nat} {xs : List Value} (hS : Sep P w0 w S) (h : Held w0 w S T 1 (.slice (some ⟨b, off, none⟩) m cap) m xs) {i : Nat} (hi : i < m) (u : Value) :
    Held w0 (w.setCell ⟨b, off + i, none⟩ u) S T 1 (.slice (some ⟨b, off, none⟩) m cap) m (xs.set i u) ∧ Sep P w0 (w.setCell ⟨b, off + i, none⟩ u) S := by
  have hx : i < xs.length := by have := h.1; omega
  obtain ⟨b', off', cap', hv, hSb, _⟩ := Sl.pos h (by omega)
  simp at hv
  obtain ⟨⟨rfl, rfl⟩, rfl⟩ := hv
  exact ⟨Sl.set h hx u, sep_keep hP hS (F := fun k => k = b) (Fr.setCell (Fr.refl (fun k => k = b) w) (p := ⟨b, off + i, none⟩) (fun _ => rfl) u) (fun k _ s q => hSb.1 (q ▸ s)) (fun k hk q => by have := hSb.2; omega)⟩
/-- What is of another make stays. -/
theorem sl_set_beside {S2 : Nat → Prop} {T T2 : TypeId} {b off m cap sz n : Nat} {xs ys : List Value} {v : Value} (h : Sl w S T 1 (.slice (some ⟨b, off, none⟩) m cap) m xs) {i : Nat} (hi : i < m) (h2 : Sl w S2 T2 sz v n ys) (hT : T ≠ T2) (u : Value) : Sl (w.setCell ⟨b, off + i, none⟩ u) S2 T2 sz v n ys := by
  obtain ⟨h1, hh⟩ := h
  rcases hh with ⟨_, hh⟩ | ⟨b', off', cap', c, hv, hS, hb, _⟩
  · omega
  · simp at hv
    obtain ⟨⟨rfl, rfl⟩, rfl⟩ := hv
    exact h2.setCell_other hb hT _ _
theorem Held.keep' {T : TypeId} {sz : Nat} {v : Value} {n : Nat} {xs : List Value} (hS : Sep P w0 w S) (h : Held w0 w S T sz v n xs) (hF : Fr (fun b => w.heap.size ≤ b) w w') : Held w0 w' S T sz v n xs :=
  Held.keep h hF (fun b hb => by omega)
theorem two_left (hB : Frm B) (h : Sep (Two A B) w0 w S) (hc : ∀ S1, A w S1 → Calls Try.prog F av w fun e w' => R e ∧ A' w' (grow S1 w w') ∧ Fr S1 w w') :
    Calls Try.prog F av w fun e w' => R e ∧ Sep (Two A' B) w0 w' (grow S w w') ∧ Fr S w w' := by
  obtain ⟨S1, S2, h1, h2, h3, hA, hR⟩ := h.at_
  refine (hc S1 hA).mono fun e w' ⟨he, hA', hF⟩ => ?_
  have hF' : Fr S w w' := hF.mono fun b _ q => h1 b q
  exact ⟨he, h.next ⟨grow S1 w w', S2, fun b q => q.imp (h1 b) (fun q => q), fun b q => Or.inl (h2 b q), fun b q q2 => q.elim (fun q => h3 b q q2) (fun q => by have := h.hi b (h2 b q2); omega), hA', hB _ _ _ hF.size (fun b hb q => hF.block b hb (fun q2 => h3 b q2 q)) hR⟩ hF', hF'⟩
theorem two_right (hA : Frm A) (h : Sep (Two A B) w0 w S) (hc : ∀ S2, B w S2 → Calls Try.prog F av w fun e w' => R e ∧ B' w' (grow S2 w w') ∧ Fr S2 w w') :
    Calls Try.prog F av w fun e w' => R e ∧ Sep (Two A B') w0 w' (grow S w w') ∧ Fr S w w' := by
  obtain ⟨S1, S2, h1, h2, h3, ha, hR⟩ := h.at_
  refine (hc S2 hR).mono fun e w' ⟨he, hR', hF⟩ => ?_
  have hF' : Fr S w w' := hF.mono fun b _ q => h2 b q
  exact ⟨he, h.next ⟨S1, grow S2 w w', fun b q => Or.inl (h1 b q), fun b q => q.imp (h2 b) (fun q => q), fun b q q2 => q2.elim (fun q2 => h3 b q q2) (fun q2 => by have := h.hi b (h1 b q); omega), hA _ _ _ hF.size (fun b hb q => hF.block b hb (fun q2 => h3 b q q2)) ha, hR'⟩ hF', hF'⟩
theorem two_new {w1 w2 : World} (hA : Frm A) (hF0 : Fr (From w0.heap.size) w0 w1) (ha : A w1 (fun b => w.heap.size ≤ b ∧ b < w1.heap.size)) (hw0 : w0.heap.size ≤ w.heap.size) (hww : w.heap.size ≤ w1.heap.size) (hb : B w2 (fun b => w1.heap.size ≤ b ∧ b < w2.heap.size)) (hF2 : Fr (fun _ => False) w1 w2) :
    Sep (Two A B) w0 w2 (fun b => w.heap.size ≤ b ∧ b < w2.heap.size) := by
  have hz := hF2.size
  exact ⟨⟨_, _, fun b q => ⟨q.1, by omega⟩, fun b q => ⟨Nat.le_trans hww q.1, q.2⟩, fun b q q2 => by omega, hA _ _ _ hF2.size (fun b hb _ => hF2.block b hb (fun q => q)) ha, hb⟩, hF0.trans hF2 (fun _ _ q => q.elim), fun b q => Nat.le_trans hw0 q.1, fun b q => q.2⟩
end
end Go.Proofs.Ytldnacphfoagnad
/- Layer 13 (arc) and its reference, off memory: what keeps them alike. -/
namespace Go.Proofs.Ytldnacphfoagnad
open Go.RowKit
set_option linter.unusedVariables false
structure Syn (k : Nat) (s : ArcS) (t : AfS) : Prop where
  L : t.L = s.L
  B1 : t.B1 = s.B1
  B2 : t.B2 = s.B2
  most : t.most = s.most
  m1 : s.m1 = s.most
  m2 : s.m2 = s.most
  P : t.P = s.P
  P0 : 0 ≤ s.P
  P1 : s.P ≤ s.most
  Pk : s.P ≤ k * 1000000
  H : ∀ id, s.H id = numOf t.H id
  st : ∀ y ∈ t.H, y.1 ∈ t.L 0 ∨ y.1 ∈ t.L 1
  len : t.H.length ≤ k
theorem syn_start : Syn 0 arc0 af0 := by
  refine ⟨rfl, rfl, rfl, rfl, rfl, rfl, rfl, by decide, by decide, by decide, fun x => rfl, fun y hy => ?_, by decide⟩
  exact absurd hy (by simp [af0])
theorem Syn.more {k : Nat} {s : ArcS} {t : AfS} (h : Syn k s t) : Syn (k + 1) s t := ⟨h.L, h.B1, h.B2, h.most, h.m1, h.m2, h.P, h.P0, h.P1, by have := h.Pk; omega, h.H, h.st, by have := h.len; omega⟩
theorem syn_cap {k : Nat} {s : ArcS} {t : AfS} (h : Syn k s t) (n : Int) : Syn (k + 1) (capA s n) (t.cap n) := by
  have h0 := h.P0
  have h1 := h.P1
  have hk := h.Pk
  refine ⟨h.L, ?_, ?_, rfl, rfl, rfl, ?_, ?_, ?_, ?_, h.H, h.st, by have := h.len; show t.H.length ≤ k + 1; omega⟩
  · show Go.Proofs.Ytldnacphfoagnad.cut (max 0 n) t.B1 = Go.Proofs.Ytldnacphfoagnad.cut (max 0 n) s.B1; rw [h.B1]
  · show Go.Proofs.Ytldnacphfoagnad.cut (max 0 n) t.B2 = Go.Proofs.Ytldnacphfoagnad.cut (max 0 n) s.B2; rw [h.B2]
  · show min t.P (max 0 n) = min s.P (max 0 n); rw [h.P]
  · show 0 ≤ min s.P (max 0 n); omega
  · show min s.P (max 0 n) ≤ max 0 n; omega
  · show min s.P (max 0 n) ≤ _; omega
theorem mem_front {L : Nat → List Int} {r : Nat} {id x : Int} (hr : r = 0 ∨ r = 1) (h : x ∈ L 0 ∨ x ∈ L 1) : x ∈ putF (del L id) r id 0 ∨ x ∈ putF (del L id) r id 1 := by
  have hf : ∀ l : List Int, x ∈ l → x ≠ id → x ∈ l.filter (· != id) := fun l q hne => List.mem_filter.2 ⟨q, by simpa using hne⟩
  rcases hr with rfl | rfl
  · rw [(putF_0 L id).1, (putF_0 L id).2]
    by_cases e : x = id
    · exact Or.inl (by simp [e])
    · exact h.imp (fun q => List.mem_cons_of_mem _ (hf _ q e)) (fun q => hf _ q e)
  · rw [(putF_1 L id).1, (putF_1 L id).2]
    by_cases e : x = id
    · exact Or.inr (by simp [e])
    · exact h.imp (fun q => hf _ q e) (fun q => List.mem_cons_of_mem _ (hf _ q e))
theorem mem_front_id (L : Nat → List Int) {r : Nat} (id : Int) (hr : r = 0 ∨ r = 1) : id ∈ putF (del L id) r id 0 ∨ id ∈ putF (del L id) r id 1 := by
  rcases hr with rfl | rfl
  · exact Or.inl (by rw [(putF_0 L id).1]; simp)
  · exact Or.inr (by rw [(putF_1 L id).2]; simp)
theorem syn_touch {k : Nat} {s : ArcS} {t : AfS} (h : Syn k s t) (hw : Wid s.L) (id : Int) :
    (if 0 ≤ rowOf 2 t.L id then mayIn 2 1 id else false) = decide (0 ≤ rowOf 2 s.L id) ∧ Syn k (touchA s id) (if 0 ≤ rowOf 2 t.L id then t.front 1 id else t) := by
  unfold touchA
  rw [h.L]
  by_cases hr : 0 ≤ rowOf 2 s.L id
  · have hi : 0 ≤ id ∧ id ≤ 4194303 := ((rowOf2_nn s.L id).1 hr).elim (hw 0 id (by decide)) (hw 1 id (by decide))
    rw [if_pos hr, if_pos hr, if_pos hr, decide_eq_true hr]
    refine ⟨decide_eq_true ⟨by decide, by decide, hi⟩, ⟨?_, h.B1, h.B2, h.most, h.m1, h.m2, h.P, h.P0, h.P1, h.Pk, h.H, ?_, h.len⟩⟩
    · show frontL 2 t.L 1 id = _; rw [h.L]
    · intro y hy
      show y.1 ∈ frontL 2 t.L 1 id 0 ∨ y.1 ∈ frontL 2 t.L 1 id 1
      rw [front2 _ _ _ (Or.inr rfl) hi.1 hi.2]
      exact mem_front (r := 1) (Or.inr rfl) (h.st y hy)
  · rw [if_neg hr, if_neg hr, if_neg hr, decide_eq_false hr]
    exact ⟨rfl, h⟩
theorem numOf_filter (id x : Int) : ∀ l : List (Int × Int), numOf (l.filter fun y => y.1 != id) x = if x = id then 0 else numOf l x
  | [] => by simp [numOf]
  | p :: l => by
    have ih := numOf_filter id x l
    by_cases e : p.1 = id
    · rw [List.filter_cons_of_neg (by simp [e]), ih]
      by_cases e2 : x = id
      · rw [if_pos e2, if_pos e2]
      · rw [if_neg e2, if_neg e2]
        have : ¬ p.1 = x := fun q => e2 (q.symm.trans e)
        simp [numOf, this]
    · rw [List.filter_cons_of_pos (by simpa using e)]
      by_cases e2 : p.1 = x
      · have : ¬ x = id := fun q => e (e2.trans q)
        rw [if_neg this]
        simp [numOf, e2]
      · simp only [numOf, if_neg e2]
        exact ih
theorem syn_rem {k : Nat} {s : ArcS} {t : AfS} (h : Syn k s t) (id : Int) : Syn k (remA s id) (t.drop id) := by
  refine ⟨?_, h.B1, h.B2, h.most, h.m1, h.m2, h.P, h.P0, h.P1, h.Pk, ?_, ?_, Nat.le_trans (List.length_filter_le _ _) h.len⟩
  · show del t.L id = del s.L id; rw [h.L]
  · intro x
    show setH s.H id 0 x = numOf (t.H.filter _) x
    rw [numOf_filter]
    unfold setH
    split
    · rfl
    · exact h.H x
  · intro y hy
    obtain ⟨h1, h2⟩ := List.mem_filter.1 hy
    have hne : y.1 ≠ id := by simpa using h2
    exact (h.st y h1).imp (fun q => List.mem_filter.2 ⟨q, by simpa using hne⟩) (fun q => List.mem_filter.2 ⟨q, by simpa using hne⟩)
theorem numOf_out {l : List (Int × Int)} {x : Int} (h : ∀ y ∈ l, y.1 ≠ x) (v : Int) : numOf (l ++ [(x, v)]) x = v := by
  induction l with
  | nil => simp [numOf]
  | cons p l ih =>
    have hp := h p (by simp)
    simp only [List.cons_append, numOf, if_neg hp]
    exact ih fun y hy => h y (by simp [hy])
theorem numOf_app {l : List (Int × Int)} {x id : Int} (hne : x ≠ id) (v : Int) : numOf (l ++ [(id, v)]) x = numOf l x := by
  induction l with
  | nil => simp [numOf, Ne.symm hne]
  | cons p l ih =>
    simp only [List.cons_append, numOf]
    split
    · rfl
    · exact ih
theorem syn_evict {k : Nat} {s : ArcS} {t : AfS} (h : Syn k s t) (hn : ∀ r, 2 ≤ r → s.L r = []) (id : Int) : Syn k (evictA s id) (t.evict id) := by
  by_cases hr : 0 ≤ rowOf 2 s.L id
  · have he : evictA s id = { remA s id with B1 := if rowOf 2 s.L id = 0 then gadd s.m1 s.B1 (s.H id) else s.B1, B2 := if rowOf 2 s.L id = 1 then gadd s.m2 s.B2 (s.H id) else s.B2 } := by unfold evictA; rw [if_pos hr]; rfl
    have ht : t.evict id = { t.drop id with B1 := if rowOf 2 s.L id = 0 then gadd s.m1 s.B1 (s.H id) else s.B1, B2 := if rowOf 2 s.L id = 1 then gadd s.m2 s.B2 (s.H id) else s.B2 } := by
      unfold AfS.evict AfS.drop
      rw [h.L, h.B1, h.B2, h.m1, h.m2, h.most, h.H]
    rw [he, ht]
    have hs := syn_rem h id
    exact ⟨hs.L, rfl, rfl, hs.most, hs.m1, hs.m2, hs.P, hs.P0, hs.P1, hs.Pk, hs.H, hs.st, hs.len⟩
  · have hno : id ∉ s.L 0 ∧ id ∉ s.L 1 := ⟨fun q => hr ((rowOf2_nn _ _).2 (Or.inl q)), fun q => hr ((rowOf2_nn _ _).2 (Or.inr q))⟩
    have he : evictA s id = s := by unfold evictA; rw [if_neg hr]
    have hL : del t.L id = t.L := by
      rw [h.L]
      refine del_none fun r q => ?_
      match r, q with
      | 0, q => exact hno.1 q
      | 1, q => exact hno.2 q
      | r + 2, q => rw [hn (r + 2) (by omega)] at q; cases q
    have hH : (t.H.filter fun y => y.1 != id) = t.H := List.filter_eq_self.2 fun y hy => by
      simp only [bne_iff_ne, ne_eq]
      intro e
      have := h.st y hy
      rw [h.L, e] at this
      exact this.elim hno.1 hno.2
    have ht : t.evict id = t := by
      unfold AfS.evict AfS.drop
      rw [h.L]
      rw [if_neg (fun q => hr (by rw [q]; decide)), if_neg (fun q => hr (by rw [q]; decide))]
      rw [h.L] at hL
      rw [hL, hH]
      rw [← h.L]
    rw [he, ht]
    exact h
theorem syn_vict {k : Nat} {s : ArcS} {t : AfS} (h : Syn k s t) (hh : Int) : t.vict hh = victA s hh := by
  unfold AfS.vict victA
  rw [h.P, h.L, h.B2]
theorem syn_ghosts {k : Nat} {s : ArcS} {t : AfS} (h : Syn k s t) (row : Int) : t.ghosts row = ghosts s row := by
  unfold AfS.ghosts ghosts
  rw [h.B1, h.B2]
theorem syn_ins {k : Nat} {s : ArcS} {t : AfS} (h : Syn k s t) (hb1 : s.B1.length ≤ 1000000) (hb2 : s.B2.length ≤ 1000000) (id hh : Int) : Syn (k + 1) (insA s id hh) (t.ins id hh) := by
  unfold insA AfS.ins
  by_cases hok : insOk s id = true
  · have hc := of_decide_eq_true hok
    have hok2 : insOkF t id = true := by unfold insOkF; rw [h.L]; exact hok
    rw [if_pos hok, if_pos hok2]
    have hno : id ∉ s.L 0 ∧ id ∉ s.L 1 := ⟨fun q => by have := (rowOf2_nn _ _).2 (Or.inl q); omega, fun q => by have := (rowOf2_nn _ _).2 (Or.inr q); omega⟩
    have hP0 := h.P0
    have hP1 := h.P1
    have hPk := h.Pk
    have hnew : ∀ x, setH s.H id hh x = numOf (t.H ++ [(id, hh)]) x := fun x => by
      unfold setH
      by_cases e : x = id
      · rw [if_pos e, e, numOf_out]
        intro y hy q
        have := h.st y hy
        rw [h.L, q] at this
        exact this.elim hno.1 hno.2
      · rw [if_neg e, numOf_app e]; exact h.H x
    have hst : ∀ r : Nat, (r = 0 ∨ r = 1) → ∀ y ∈ t.H ++ [(id, hh)], y.1 ∈ frontL 2 t.L r id 0 ∨ y.1 ∈ frontL 2 t.L r id 1 := fun r hr y hy => by
      rw [front2 t.L r id (by omega) hc.2.1 hc.2.2]
      rw [show ((r : Int)).toNat = r from by omega]
      rcases List.mem_append.1 hy with q | q
      · exact mem_front hr (h.st y q)
      · have : y = (id, hh) := by simpa using q
        rw [this]
        exact mem_front_id t.L id hr
    have hlen : (t.H ++ [(id, hh)]).length ≤ k + 1 := by have := h.len; rw [List.length_append]; simp; omega
    by_cases h1 : hh ∈ s.B1
    · have hg : insG s hh = { s with P := min (max (s.P + max 1 ((s.B2.length : Int) / (s.B1.length : Int))) 0) s.most, B1 := grem s.B1 hh } := by unfold insG; rw [if_pos h1]
      have hr : insR s hh = 1 := by unfold insR; rw [if_pos h1]
      rw [hg, hr, if_pos (by rw [h.B1]; exact h1)]
      have hpos := List.length_pos_of_mem h1
      have hq : 0 ≤ (s.B2.length : Int) / (s.B1.length : Int) ∧ (s.B2.length : Int) / (s.B1.length : Int) ≤ 1000000 := ⟨Int.ediv_nonneg (by omega) (by omega), Int.le_trans (Int.ediv_le_self _ (by omega)) (by omega)⟩
      refine ⟨?_, ?_, h.B2, h.most, h.m1, h.m2, ?_, ?_, ?_, ?_, hnew, hst 1 (Or.inr rfl), hlen⟩
      · show frontL 2 t.L 1 id = _; rw [h.L]
      · show grem t.B1 hh = _; rw [h.B1]
      · show min t.most (t.P + max 1 ((t.B2.length : Int) / (t.B1.length : Int))) = min (max (s.P + max 1 ((s.B2.length : Int) / (s.B1.length : Int))) 0) s.most
        rw [h.most, h.P, h.B1, h.B2]
        omega
      · show 0 ≤ min (max (s.P + max 1 ((s.B2.length : Int) / (s.B1.length : Int))) 0) s.most; omega
      · show min (max (s.P + max 1 ((s.B2.length : Int) / (s.B1.length : Int))) 0) s.most ≤ s.most; omega
      · show min (max (s.P + max 1 ((s.B2.length : Int) / (s.B1.length : Int))) 0) s.most ≤ ((k + 1 : Nat) : Int) * 1000000; omega
    · have h1t : hh ∉ t.B1 := by rw [h.B1]; exact h1
      rw [if_neg h1t]
      by_cases h2 : hh ∈ s.B2
      · have hg : insG s hh = { s with P := min (max (s.P + - max 1 ((s.B1.length : Int) / (s.B2.length : Int))) 0) s.most, B2 := grem s.B2 hh } := by unfold insG; rw [if_neg h1, if_pos h2]
        have hr : insR s hh = 1 := by unfold insR; rw [if_neg h1, if_pos h2]
        rw [hg, hr, if_pos (by rw [h.B2]; exact h2)]
        have hpos := List.length_pos_of_mem h2
        have hq : 0 ≤ (s.B1.length : Int) / (s.B2.length : Int) ∧ (s.B1.length : Int) / (s.B2.length : Int) ≤ 1000000 := ⟨Int.ediv_nonneg (by omega) (by omega), Int.le_trans (Int.ediv_le_self _ (by omega)) (by omega)⟩
        refine ⟨?_, h.B1, ?_, h.most, h.m1, h.m2, ?_, ?_, ?_, ?_, hnew, hst 1 (Or.inr rfl), hlen⟩
        · show frontL 2 t.L 1 id = _; rw [h.L]
        · show grem t.B2 hh = _; rw [h.B2]
        · show max 0 (t.P - max 1 ((t.B1.length : Int) / (t.B2.length : Int))) = min (max (s.P + - max 1 ((s.B1.length : Int) / (s.B2.length : Int))) 0) s.most
          rw [h.P, h.B1, h.B2]
          omega
        · show 0 ≤ min (max (s.P + - max 1 ((s.B1.length : Int) / (s.B2.length : Int))) 0) s.most; omega
        · show min (max (s.P + - max 1 ((s.B1.length : Int) / (s.B2.length : Int))) 0) s.most ≤ s.most; omega
        · show min (max (s.P + - max 1 ((s.B1.length : Int) / (s.B2.length : Int))) 0) s.most ≤ ((k + 1 : Nat) : Int) * 1000000; omega
      · have hg : insG s hh = s := by unfold insG; rw [if_neg h1, if_neg h2]
        have hr : insR s hh = 0 := by unfold insR; rw [if_neg h1, if_neg h2]
        rw [hg, hr, if_neg (by rw [h.B2]; exact h2)]
        refine ⟨?_, h.B1, h.B2, h.most, h.m1, h.m2, h.P, hP0, hP1, ?_, hnew, hst 0 (Or.inl rfl), hlen⟩
        · show frontL 2 t.L 0 id = _; rw [h.L]
        · show s.P ≤ ((k + 1 : Nat) : Int) * 1000000; omega
  · have hok2 : ¬ insOkF t id = true := by unfold insOkF; rw [h.L]; exact hok
    rw [if_neg hok, if_neg hok2]
    exact h.more
end Go.Proofs.Ytldnacphfoagnad
/- Layer 13 (arc) and its reference, side by side. -/
namespace Go.Proofs.Ytldnacphfoagnad
open Go.RowKit
set_option linter.unusedVariables false
def PA (p : Nat) (s : ArcS) (N M : Nat) (w : World) (S : Nat → Prop) : Prop := ArcAt w S p s N M
def PB (q : Nat) (t : AfS) (w : World) (S : Nat → Prop) : Prop := Af w S q t
theorem pa_frm (p : Nat) (s : ArcS) (N M : Nat) : Frm (PA p s N M) := fun w w' S hz hf h => ArcAt.frame h hz hf
theorem pb_frm (q : Nat) (t : AfS) : Frm (PB q t) := fun w w' S hz hf h => Af.frame h hz hf
def AP (p q : Nat) (s : ArcS) (t : AfS) (N M : Nat) : World → (Nat → Prop) → Prop := Two (PA p s N M) (PB q t)
theorem ap_frm (p q : Nat) (s : ArcS) (t : AfS) (N M : Nat) : Frm (AP p q s t N M) := two_frm (pa_frm p s N M) (pb_frm q t)
section
variable {w0 w w' : World} {S : Nat → Prop} {p q : Nat} {s s' : ArcS} {t t' : AfS} {N N' M M' k : Nat}
theorem ap_arc (h : Sep (AP p q s t N M) w0 w S) : ∃ S1, ArcAt w S1 p s N M := by obtain ⟨S1, S2, h1, h2, h3, hA, hR⟩ := h.at_; exact ⟨S1, hA⟩
theorem ap_ref (h : Sep (AP p q s t N M) w0 w S) : ∃ S2, Af w S2 q t ∧ ∀ b, S2 b → S b := by obtain ⟨S1, S2, h1, h2, h3, hA, hR⟩ := h.at_; exact ⟨S2, hR, h2⟩
theorem ap_more (h : Sep (AP p q s t N M) w0 w S) (hN : N ≤ N') (hM : M ≤ M') : Sep (AP p q s t N' M') w0 w S := h.as (fun hA => by obtain ⟨S1, S2, h1, h2, h3, hA, hR⟩ := hA; exact ⟨S1, S2, h1, h2, h3, ArcAt.more hA hN hM, hR⟩)
/-- What the rows and ghosts keep. -/
theorem ap_nums (h : Sep (AP p q s t N M) w0 w S) : Dsj 2 s.L ∧ (∀ k, (s.L k).length ≤ N) ∧ Wid s.L ∧ (∀ r, 2 ≤ r → s.L r = []) ∧ s.B1.length ≤ M ∧ s.B2.length ≤ M := by
  obtain ⟨S1, hA⟩ := ap_arc h
  obtain ⟨g, b1, b2, m, l, o, Sr, S1, S2, hO⟩ := hA
  have hR := hO.hR
  exact ⟨fun a b ha hb x h1 h2 => hR.disj ha hb h1 h2, hR.len_le, fun r x hr hx => hR.range hr hx, fun r hr => hR.nil hr, hO.hG1.len_le', hO.hG2.len_le'⟩
theorem Syn.lim (hS : Syn k s t) (h : Sep (AP p q s t N M) w0 w S) (hk : k ≤ 1000) (hN : N ≤ 1000) (hM : M ≤ 1000) : Lim t := by
  obtain ⟨hd, hl, _, _, hb1, hb2⟩ := ap_nums h
  have h0 := hS.P0
  have h1 := hS.P1
  have h2 := hS.Pk
  have h3 := hS.len
  refine ⟨fun r => by rw [hS.L]; exact Nat.le_trans (hl r) (by omega), by rw [hS.L]; exact hd, by omega, by rw [hS.most]; omega, by rw [hS.B1]; omega, by rw [hS.B2]; omega, by rw [hS.P]; exact h0, by rw [hS.P]; omega⟩
theorem cap_ap (h : Sep (AP p q s t N M) w0 w S) (n : Int) (hM : M ≤ 1000000) :
    Calls Try.prog 10 #[.pointer (some ⟨p, 0, none⟩), .int .i64 n] w fun e w' => e = .returned (.tuple #[]) ∧ Sep (AP p q (capA s n) t N M) w0 w' (grow S w w') ∧ Fr S w w' :=
  two_left (pb_frm q t) h fun S1 hA => arc_cap S1 p s N M n w hA hM
theorem rcap_ap (h : Sep (AP p q s t N M) w0 w S) (n : Int) (hL : Lim t) :
    Calls Try.prog 46 #[.pointer (some ⟨q, 0, none⟩), .int .i64 n] w fun e w' => e = .returned (.tuple #[]) ∧ Sep (AP p q s (t.cap n) N M) w0 w' (grow S w w') ∧ Fr S w w' :=
  two_right (pa_frm p s N M) h fun S2 hA => af_cap S2 q t n w hA (Nat.le_of_lt hL.B1) (Nat.le_of_lt hL.B2)
theorem insert_ap (h : Sep (AP p q s t N M) w0 w S) (id hh : Int) (hN : N < 1000000) (hM : M ≤ 1000000) (hP : 0 ≤ s.P ∧ s.P ≤ 1000000000000) :
    Calls Try.prog 11 #[.pointer (some ⟨p, 0, none⟩), .int .i64 id, .int .u64 hh] w fun e w' => e = .returned (.bool (insOk s id)) ∧ Sep (AP p q (insA s id hh) t (N + 1) M) w0 w' (grow S w w') ∧ Fr S w w' :=
  two_left (pb_frm q t) h fun S1 hA => arc_insert S1 p s N M id hh w hA hN hM hP
theorem rinsert_ap (h : Sep (AP p q s t N M) w0 w S) (id hh : Int) (hL : Lim t) :
    Calls Try.prog 42 #[.pointer (some ⟨q, 0, none⟩), .int .i64 id, .int .u64 hh] w fun e w' => e = .returned (.bool (insOkF t id)) ∧ Sep (AP p q s (t.ins id hh) N M) w0 w' (grow S w w') ∧ Fr S w w' :=
  two_right (pa_frm p s N M) h fun S2 hA => af_insert S2 q t id hh w hA hL
theorem touch_ap (h : Sep (AP p q s t N M) w0 w S) (id : Int) (hN : N < 1000000) :
    Calls Try.prog 12 #[.pointer (some ⟨p, 0, none⟩), .int .i64 id] w fun e w' => e = .returned (.bool (decide (0 ≤ rowOf 2 s.L id))) ∧ Sep (AP p q (touchA s id) t (N + 1) M) w0 w' (grow S w w') ∧ Fr S w w' :=
  two_left (pb_frm q t) h fun S1 hA => arc_touch S1 p s N M id w hA hN
theorem rtouch_ap (h : Sep (AP p q s t N M) w0 w S) (id : Int) (hL : Lim t) :
    Calls Try.prog 43 #[.pointer (some ⟨q, 0, none⟩), .int .i64 id] w fun e w' => e = .returned (.bool (if 0 ≤ rowOf 2 t.L id then mayIn 2 1 id else false)) ∧ Sep (AP p q s (if 0 ≤ rowOf 2 t.L id then t.front 1 id else t) N M) w0 w' (grow S w w') ∧ Fr S w w' :=
  two_right (pa_frm p s N M) h fun S2 hA => af_touch S2 q t id w hA hL.N hL.d
theorem remove_ap (h : Sep (AP p q s t N M) w0 w S) (id : Int) (hN : N ≤ 1000000) :
    Calls Try.prog 38 #[.pointer (some ⟨p, 0, none⟩), .int .i64 id] w fun e w' => e = .returned (.bool (decide (0 ≤ rowOf 2 s.L id))) ∧ Sep (AP p q (remA s id) t N M) w0 w' (grow S w w') ∧ Fr S w w' :=
  two_left (pb_frm q t) h fun S1 hA => arc_remove S1 p s N M id w hA hN
theorem rremove_ap (h : Sep (AP p q s t N M) w0 w S) (id : Int) (hL : Lim t) :
    Calls Try.prog 44 #[.pointer (some ⟨q, 0, none⟩), .int .i64 id] w fun e w' => e = .returned (.bool (decide (0 ≤ rowOf 2 t.L id))) ∧ Sep (AP p q s (t.drop id) N M) w0 w' (grow S w w') ∧ Fr S w w' :=
  two_right (pa_frm p s N M) h fun S2 hA => af_remove S2 q t id w hA hL.N hL.d (Nat.le_of_lt hL.H)
theorem evict_ap (h : Sep (AP p q s t N M) w0 w S) (id : Int) (hN : N ≤ 1000000) (hM : M < 1000000) :
    Calls Try.prog 15 #[.pointer (some ⟨p, 0, none⟩), .int .i64 id] w fun e w' => e = .returned (.bool (decide (0 ≤ rowOf 2 s.L id))) ∧ Sep (AP p q (evictA s id) t N (M + 1)) w0 w' (grow S w w') ∧ Fr S w w' :=
  two_left (pb_frm q t) h fun S1 hA => arc_evict S1 p s N M id w hA hN hM
theorem revict_ap (h : Sep (AP p q s t N M) w0 w S) (id : Int) (hL : Lim t) :
    Calls Try.prog 45 #[.pointer (some ⟨q, 0, none⟩), .int .i64 id] w fun e w' => e = .returned (.bool (decide (0 ≤ rowOf 2 t.L id))) ∧ Sep (AP p q s (t.evict id) N M) w0 w' (grow S w w') ∧ Fr S w w' :=
  two_right (pa_frm p s N M) h fun S2 hA => af_evict S2 q t id w hA hL.N hL.d (Nat.le_of_lt hL.H) hL.m hL.B1 hL.B2
theorem victim_ap (h : Sep (AP p q s t N M) w0 w S) (hh : Int) :
    Calls Try.prog 14 #[.pointer (some ⟨p, 0, none⟩), .int .u64 hh] w fun e w' => ∃ k, e = .returned (.int .i64 (victA s hh)) ∧ w' = w.drewN k ∧ Sep (AP p q s t N M) w0 w' S := by
  obtain ⟨S1, hA⟩ := ap_arc h
  exact (arc_victim S1 p s N M hh w hA).mono fun e w' ⟨he, k, hk⟩ => ⟨k, he, hk, hk ▸ sep_drewN (ap_frm _ _ _ _ _ _) h k⟩
theorem rvictim_ap (h : Sep (AP p q s t N M) w0 w S) (hh : Int) (hL : Lim t) :
    Calls Try.prog 47 #[.pointer (some ⟨q, 0, none⟩), .int .u64 hh] w fun e w' => e = .returned (.int .i64 (t.vict hh)) ∧ w = w' := by
  obtain ⟨S2, hA, _⟩ := ap_ref h
  exact af_victim S2 q t hh w hA hL.N (Nat.le_of_lt hL.B2) hL.P0
theorem target_ap (h : Sep (AP p q s t N M) w0 w S) :
    Calls Try.prog 16 #[.pointer (some ⟨p, 0, none⟩)] w fun e w' => e = .returned (.int .i64 s.P) ∧ w = w' := by
  obtain ⟨S1, hA⟩ := ap_arc h; exact arc_target S1 p s N M w hA
theorem rtarget_ap (h : Sep (AP p q s t N M) w0 w S) : w.cell? ⟨q, 4, none⟩ = some (.int .i64 t.P) := by
  obtain ⟨S2, ⟨r, b1, b2, sv, Z, hO⟩, _⟩ := ap_ref h; exact hO.cells.2.2.2.2.1
theorem ghosts_ap (h : Sep (AP p q s t N M) w0 w S) (row : Int) (hM : M ≤ 1000000) :
    Calls Try.prog 17 #[.pointer (some ⟨p, 0, none⟩), .int .i64 row] w fun e w' => ∃ v, e = .returned v ∧ Held w0 w' S 27 1 v (ghosts s row).length (u64s (ghosts s row)) ∧ Sep (AP p q s t N M) w0 w' S ∧ Fr (fun b => w.heap.size ≤ b) w w' := by
  obtain ⟨S1, hA⟩ := ap_arc h
  exact (arc_ghosts S1 p s N M row w hA hM).mono fun e w' ⟨v, he, hs, hF⟩ => ⟨v, he, Held.new h hs, sep_fr (ap_frm _ _ _ _ _ _) h hF, hF⟩
theorem rghosts_ap (h : Sep (AP p q s t N M) w0 w S) (row : Int) :
    Calls Try.prog 23 #[.pointer (some ⟨q, 0, none⟩), .int .i64 row] w fun e w' => ∃ a cap S2, e = .returned (.slice a (t.ghosts row).length cap) ∧ Sl w S2 27 1 (.slice a (t.ghosts row).length cap) (t.ghosts row).length (u64s (t.ghosts row)) ∧ w = w' := by
  obtain ⟨S2, hA, _⟩ := ap_ref h
  exact (af_ghosts S2 q t row w hA).mono fun e w' ⟨a, cap, he, hs, hw⟩ => ⟨a, cap, S2, he, hs, hw⟩
theorem all_ap (h : Sep (AP p q s t N M) w0 w S) (hN : N ≤ 1000000) : ∃ g, w.cell? ⟨p, 0, none⟩ = some (.pointer (some ⟨g, 0, none⟩)) ∧ ∀ row, Calls Try.prog 13 #[.pointer (some ⟨g, 0, none⟩), .int .i64 row] w fun e w' =>
      ∃ v, e = .returned v ∧ Held w0 w' S 3 1 v (rowL s.L row).length ((rowL s.L row).map (Value.int .i64)) ∧ Sep (AP p q s t N M) w0 w' S ∧ Fr (fun b => w.heap.size ≤ b) w w' := by
  obtain ⟨S1, g, b1, b2, m, l, o, Sr, S3, S4, hO⟩ := ap_arc h
  have c0 := cell_of_heap hO.hp 0
  simp at c0
  exact ⟨g, c0, fun row => (rows_all Sr g 2 s.L N row w hO.hR hN).mono fun e w' ⟨v, he, hs, hB⟩ => ⟨v, he, Held.new h hs, sep_fr (ap_frm _ _ _ _ _ _) h (Fr.of_below hB), Fr.of_below hB⟩⟩
theorem rall_ap (h : Sep (AP p q s t N M) w0 w S) : ∃ r, w.cell? ⟨q, 0, none⟩ = some (.pointer (some ⟨r, 0, none⟩)) ∧ ∀ row, Calls Try.prog 21 #[.pointer (some ⟨r, 0, none⟩), .int .i64 row] w fun e w' =>
      ∃ a cap S2, e = .returned (.slice a (rowL t.L row).length cap) ∧ Sl w S2 3 1 (.slice a (rowL t.L row).length cap) (rowL t.L row).length ((rowL t.L row).map (Value.int .i64)) ∧ w = w' := by
  obtain ⟨S2, ⟨r, b1, b2, sv, Z, hO⟩, _⟩ := ap_ref h
  exact ⟨r, hO.cells.1, fun row => (rf_all (Z 0) r 2 t.L row w hO.hR).mono fun e w' ⟨a, cap, he, hs, hw⟩ => ⟨a, cap, Z 0, he, hs, hw⟩⟩
end
end Go.Proofs.Ytldnacphfoagnad
/- The law's step: both do the same, and answer the same. -/
namespace Go.Proofs.Ytldnacphfoagnad
open Go.RowKit
set_option linter.unusedVariables false
/-- The step's own cells stay. -/
def Kp (ob : Nat) (x1 x2 : Int) (z : World) (S : Nat → Prop) : Prop := ob < z.heap.size ∧ ¬ S ob ∧ z.cell? ⟨ob, 1, none⟩ = some (.int .i64 x1) ∧ z.cell? ⟨ob, 2, none⟩ = some (.int .u64 x2)
theorem Kp.step {ob : Nat} {x1 x2 : Int} {z z' : World} {S : Nat → Prop} (h : Kp ob x1 x2 z S) (hF : Fr S z z') : Kp ob x1 x2 z' (grow S z z') :=
  ⟨Nat.lt_of_lt_of_le h.1 hF.size, fun q => q.elim h.2.1 (fun q => by have := h.1; have := q.1; omega), (hF.cell (p := ⟨ob, 1, none⟩) h.1 h.2.1).trans h.2.2.1, (hF.cell (p := ⟨ob, 2, none⟩) h.1 h.2.1).trans h.2.2.2⟩
set_option maxHeartbeats 8000000 in
theorem does_ok {w0 w : World} {S : Nat → Prop} {p q : Nat} {s : ArcS} {t : AfS} {k : Nat} (h : Sep (AP p q s t k k) w0 w S) (hS : Syn k s t) (hk : k ≤ 200) (x0 x1 x2 : Int) :
    Calls Try.prog 19 #[.pointer (some ⟨p, 0, none⟩), .pointer (some ⟨q, 0, none⟩), .agg #[.int .i64 x0, .int .i64 x1, .int .u64 x2]] w fun e w' => e = .returned (.bool true) ∧ ∃ s' t' S', Sep (AP p q s' t' (k + 1) (k + 1)) w0 w' S' ∧ Syn (k + 1) s' t' := by
  have hLim := hS.lim h (by omega) (by omega) (by omega)
  have hnum := ap_nums h
  have hP : 0 ≤ s.P ∧ s.P ≤ 1000000000000 := ⟨hS.P0, by have := hS.Pk; omega⟩
  have HS := Lib.hid (And.intro hS (And.intro hLim (And.intro hnum hP)))
  have Hk := Lib.hid (show k < 1000000 by omega)
  have Hk2 := Lib.hid hk
  have HH := Lib.hid h
  clear h hS hLim hnum hP hk
  go_enter Try.func19, Try.ntmps19
  go_upto_region 1 with fail
  obtain ⟨ob, hob⟩ : ∃ ob, w.heap.size = ob := ⟨_, rfl⟩
  have hB2 : Sep (AP p q s t k k) w0 (w.alloc (.cells #[.int .i64 x0, .int .i64 x1, .int .u64 x2] 48)) S := sep_fr (ap_frm _ _ _ _ _ _) HH.out ((Fr.refl _ w).alloc _)
  have e0 : (w.alloc (.cells #[.int .i64 x0, .int .i64 x1, .int .u64 x2] 48)).cell? ⟨w.heap.size, 0, none⟩ = some (.int .i64 x0) := by simp
  have e1 : (w.alloc (.cells #[.int .i64 x0, .int .i64 x1, .int .u64 x2] 48)).cell? ⟨w.heap.size, 1, none⟩ = some (.int .i64 x1) := by simp
  have e2 : (w.alloc (.cells #[.int .i64 x0, .int .i64 x1, .int .u64 x2] 48)).cell? ⟨w.heap.size, 2, none⟩ = some (.int .u64 x2) := by simp
  have hsz : ob < (w.alloc (.cells #[.int .i64 x0, .int .i64 x1, .int .u64 x2] 48)).heap.size := by simp; omega
  have hnS : ¬ S ob := fun g => by have := HH.out.hi _ g; omega
  rw [hob] at e0 e1 e2 ⊢
  obtain ⟨wo, hwo⟩ : ∃ wo, w.alloc (.cells #[.int .i64 x0, .int .i64 x1, .int .u64 x2] 48) = wo := ⟨_, rfl⟩
  rw [hwo] at hB2 e0 e1 e2 hsz ⊢
  have HB := Lib.hid (And.intro hB2 (show Kp ob x1 x2 wo S from ⟨hsz, hnS, e1, e2⟩))
  have hP0 : wo.drew.cell? ⟨ob, 1, none⟩ = some (.int .i64 x1) ∧ wo.drew.cell? ⟨ob, 2, none⟩ = some (.int .u64 x2) := ⟨e1, e2⟩
  clear hB2 hsz hnS hwo hob HH
  by_cases h1 : x0 = 1
  · subst h1
    obtain ⟨bm, hbm⟩ : ∃ bm, insOk s x1 = bm := ⟨_, rfl⟩
    have hbr : insOkF t x1 = bm := by rw [← hbm]; unfold insOk insOkF; rw [HS.out.1.L]
    have HBM := Lib.hid (And.intro hbm hbr)
    clear hbm hbr
    go_wp2_with fail
    go_region_held3 (fun w' => w'.cell? ⟨ob, 1, none⟩ = some (.int .i64 x1) ∧ w'.cell? ⟨ob, 2, none⟩ = some (.int .u64 x2)) (first | exact hP0 | exact hP1 | exact hP2) (first
      | (go_at_call 42; refine (rinsert_ap Z1.out.1 x1 x2 HS.out.2.1).mono ?_; rintro e z2 ⟨rfl, h, hF⟩; have hK := Z1.out.2.step hF; have hP2 := hK.2.2; rw [HBM.out.2]; have Z2 := Lib.hid (And.intro h hK); clear h hF hK)
      | (go_at_call 11; refine (insert_ap (sep_drew (ap_frm _ _ _ _ _ _) HB.out.1) x1 x2 Hk.out (Nat.le_of_lt Hk.out) HS.out.2.2.2).mono ?_; rintro e z1 ⟨rfl, h, hF⟩; have hK := Kp.step (z := wo.drew) HB.out.2 hF; have hP1 := hK.2.2; rw [HBM.out.1]; have Z1 := Lib.hid (And.intro h hK); clear h hF hK))
    have Z3 := Lib.hid Z2.out
    clear hP0 hP1 hP2
    go_wp2
    go_ret
    exact ⟨by simp, _, _, _, ap_more Z3.out.1 (Nat.le_refl _) (Nat.le_succ k), syn_ins HS.out.1 (Nat.le_trans HS.out.2.2.1.2.2.2.2.1 (Nat.le_of_lt Hk.out)) (Nat.le_trans HS.out.2.2.1.2.2.2.2.2 (Nat.le_of_lt Hk.out)) x1 x2⟩
  · have h1b : (x0 == 1) = false := by simpa using h1
    clear h1
    by_cases h2 : x0 = 2
    · subst h2
      obtain ⟨bm, hbm⟩ : ∃ bm, decide (0 ≤ rowOf 2 s.L x1) = bm := ⟨_, rfl⟩
      have hbr : (if 0 ≤ rowOf 2 t.L x1 then mayIn 2 1 x1 else false) = bm := by rw [← hbm]; exact (syn_touch HS.out.1 HS.out.2.2.1.2.2.1 x1).1
      have HBM := Lib.hid (And.intro hbm hbr)
      clear hbm hbr
      go_wp2_with fail
      go_region_held3 (fun w' => w'.cell? ⟨ob, 1, none⟩ = some (.int .i64 x1) ∧ w'.cell? ⟨ob, 2, none⟩ = some (.int .u64 x2)) (first | exact hP0 | exact hP1 | exact hP2) (first
        | (go_at_call 43; refine (rtouch_ap Z1.out.1 x1 HS.out.2.1).mono ?_; rintro e z2 ⟨rfl, h, hF⟩; have hK := Z1.out.2.step hF; have hP2 := hK.2.2; rw [HBM.out.2]; have Z2 := Lib.hid (And.intro h hK); clear h hF hK)
        | (go_at_call 12; refine (touch_ap (sep_drew (ap_frm _ _ _ _ _ _) HB.out.1) x1 Hk.out).mono ?_; rintro e z1 ⟨rfl, h, hF⟩; have hK := Kp.step (z := wo.drew) HB.out.2 hF; have hP1 := hK.2.2; rw [HBM.out.1]; have Z1 := Lib.hid (And.intro h hK); clear h hF hK))
      have Z3 := Lib.hid Z2.out
      clear hP0 hP1 hP2
      go_wp2
      go_ret
      exact ⟨by simp, _, _, _, ap_more Z3.out.1 (Nat.le_refl _) (Nat.le_succ k), (syn_touch HS.out.1 HS.out.2.2.1.2.2.1 x1).2.more⟩
    · have h2b : (x0 == 2) = false := by simpa using h2
      clear h2
      by_cases h3 : x0 = 3
      · subst h3
        obtain ⟨bm, hbm⟩ : ∃ bm, decide (0 ≤ rowOf 2 s.L x1) = bm := ⟨_, rfl⟩
        have hbr : decide (0 ≤ rowOf 2 t.L x1) = bm := by rw [← hbm, HS.out.1.L]
        have HBM := Lib.hid (And.intro hbm hbr)
        clear hbm hbr
        go_wp2_with fail
        go_region_held3 (fun w' => w'.cell? ⟨ob, 1, none⟩ = some (.int .i64 x1) ∧ w'.cell? ⟨ob, 2, none⟩ = some (.int .u64 x2)) (first | exact hP0 | exact hP1 | exact hP2) (first
          | (go_at_call 44; refine (rremove_ap Z1.out.1 x1 HS.out.2.1).mono ?_; rintro e z2 ⟨rfl, h, hF⟩; have hK := Z1.out.2.step hF; have hP2 := hK.2.2; rw [HBM.out.2]; have Z2 := Lib.hid (And.intro h hK); clear h hF hK)
          | (go_at_call 38; refine (remove_ap (sep_drew (ap_frm _ _ _ _ _ _) HB.out.1) x1 (Nat.le_of_lt Hk.out)).mono ?_; rintro e z1 ⟨rfl, h, hF⟩; have hK := Kp.step (z := wo.drew) HB.out.2 hF; have hP1 := hK.2.2; rw [HBM.out.1]; have Z1 := Lib.hid (And.intro h hK); clear h hF hK))
        have Z3 := Lib.hid Z2.out
        clear hP0 hP1 hP2
        go_wp2
        go_ret
        exact ⟨by simp, _, _, _, ap_more Z3.out.1 (Nat.le_succ k) (Nat.le_succ k), (syn_rem HS.out.1 x1).more⟩
      · have h3b : (x0 == 3) = false := by simpa using h3
        clear h3
        by_cases h4 : x0 = 4
        · subst h4
          obtain ⟨bm, hbm⟩ : ∃ bm, decide (0 ≤ rowOf 2 s.L x1) = bm := ⟨_, rfl⟩
          have hbr : decide (0 ≤ rowOf 2 t.L x1) = bm := by rw [← hbm, HS.out.1.L]
          have HBM := Lib.hid (And.intro hbm hbr)
          clear hbm hbr
          go_wp2_with fail
          go_region_held3 (fun w' => w'.cell? ⟨ob, 1, none⟩ = some (.int .i64 x1) ∧ w'.cell? ⟨ob, 2, none⟩ = some (.int .u64 x2)) (first | exact hP0 | exact hP1 | exact hP2) (first
            | (go_at_call 45; refine (revict_ap Z1.out.1 x1 HS.out.2.1).mono ?_; rintro e z2 ⟨rfl, h, hF⟩; have hK := Z1.out.2.step hF; have hP2 := hK.2.2; rw [HBM.out.2]; have Z2 := Lib.hid (And.intro h hK); clear h hF hK)
            | (go_at_call 15; refine (evict_ap (sep_drew (ap_frm _ _ _ _ _ _) HB.out.1) x1 (Nat.le_of_lt Hk.out) Hk.out).mono ?_; rintro e z1 ⟨rfl, h, hF⟩; have hK := Kp.step (z := wo.drew) HB.out.2 hF; have hP1 := hK.2.2; rw [HBM.out.1]; have Z1 := Lib.hid (And.intro h hK); clear h hF hK))
          have Z3 := Lib.hid Z2.out
          clear hP0 hP1 hP2
          go_wp2
          go_ret
          exact ⟨by simp, _, _, _, ap_more Z3.out.1 (Nat.le_succ k) (Nat.le_refl _), (syn_evict HS.out.1 HS.out.2.2.1.2.2.2.1 x1).more⟩
        · have h4b : (x0 == 4) = false := by simpa using h4
          clear h4
          by_cases h5 : x0 = 5
          · subst h5
            go_wp2_with fail
            refine (cap_ap HB.out.1 x1 (Nat.le_of_lt Hk.out)).mono ?_
            rintro e z1 ⟨rfl, h, hF⟩
            have hK := HB.out.2.step hF
            have hP1 := hK.2.2.1
            have Z1 := Lib.hid (And.intro h hK)
            clear h hF hK
            go_wp2_with fail
            refine (rcap_ap Z1.out.1 x1 HS.out.2.1).mono ?_
            rintro e z2 ⟨rfl, h, hF⟩
            have hK := Z1.out.2.step hF
            have hP2 := hK.2.2.2
            have hP3 : z2.drew.cell? ⟨ob, 2, none⟩ = some (.int .u64 x2) := hP2
            have Z2 := Lib.hid (And.intro h (And.intro hK (syn_cap HS.out.1 x1)))
            clear h hF hK
            have hLi := Z2.out.2.2.lim Z2.out.1 (by have := Hk2.out; omega) (by have := Hk2.out; omega) (by have := Hk2.out; omega)
            have HLi := Lib.hid hLi
            have hvv := syn_vict Z2.out.2.2 x2
            obtain ⟨v, hv⟩ : ∃ v, victA (capA s x1) x2 = v := ⟨_, rfl⟩
            rw [hv] at hvv
            have HV := Lib.hid (And.intro hv hvv)
            clear hv hvv hLi hP0 hP1
            go_wp2_with fail
            go_region_held3 (fun w' => w'.cell? ⟨ob, 2, none⟩ = some (.int .u64 x2)) (first | exact hP3 | exact hP4) (first
              | (go_at_call 47; refine (rvictim_ap Z3.out x2 HLi.out).mono ?_; rintro e z4 ⟨rfl, rfl⟩; rw [HV.out.2])
              | (go_at_call 14; refine (victim_ap (sep_drew (ap_frm _ _ _ _ _ _) Z2.out.1) x2).mono ?_; rintro e z3 ⟨k1, rfl, hk1, h⟩; have hP4 : z3.cell? ⟨ob, 2, none⟩ = some (.int .u64 x2) := hk1 ▸ hP3; rw [HV.out.1]; have Z3 := Lib.hid h; clear h hk1))
            have Z5 := Lib.hid Z3.out
            clear hP2 hP3 hP4
            go_wp2
            go_ret
            exact ⟨by simp, _, _, _, ap_more Z5.out (Nat.le_succ k) (Nat.le_succ k), Z2.out.2.2⟩
          · have h5b : (x0 == 5) = false := by simpa using h5
            clear h5
            have hvv := syn_vict HS.out.1 x2
            obtain ⟨v, hv⟩ : ∃ v, victA s x2 = v := ⟨_, rfl⟩
            rw [hv] at hvv
            have HV := Lib.hid (And.intro hv hvv)
            clear hv hvv
            by_cases h6 : x0 = 6
            · subst h6
              obtain ⟨bm, hbm⟩ : ∃ bm, decide (0 ≤ rowOf 2 s.L v) = bm := ⟨_, rfl⟩
              have hbr : decide (0 ≤ rowOf 2 t.L v) = bm := by rw [← hbm, HS.out.1.L]
              have HBM := Lib.hid (And.intro hbm hbr)
              clear hbm hbr
              go_wp2_with fail
              refine (rvictim_ap HB.out.1 x2 HS.out.2.1).mono ?_
              rintro e z1 ⟨rfl, rfl⟩
              rw [HV.out.2]
              go_wp2_with fail
              refine (victim_ap HB.out.1 x2).mono ?_
              rintro e z1 ⟨k1, rfl, rfl, h⟩
              rw [HV.out.1]
              have Z0 := Lib.hid h
              clear h
              go_wp2_with fail
              refine (evict_ap Z0.out v (Nat.le_of_lt Hk.out) Hk.out).mono ?_
              rintro e z1 ⟨rfl, h, hF⟩
              rw [HBM.out.1]
              have Z1 := Lib.hid h
              clear h hF
              go_wp2_with fail
              refine (revict_ap Z1.out v HS.out.2.1).mono ?_
              rintro e z2 ⟨rfl, h, hF⟩
              rw [HBM.out.2]
              have Z2 := Lib.hid h
              clear h hF
              go_wp2
              go_ret
              exact ⟨by simp, _, _, _, ap_more Z2.out (Nat.le_succ k) (Nat.le_refl _), (syn_evict HS.out.1 HS.out.2.2.1.2.2.2.1 v).more⟩
            · have h6b : (x0 == 6) = false := by simpa using h6
              clear h6
              go_wp2_with fail
              go_region_held3 (fun w' => w'.cell? ⟨ob, 2, none⟩ = some (.int .u64 x2)) (first | exact hP0.2 | exact hP1) (first
                | (go_at_call 47; refine (rvictim_ap Z1.out x2 HS.out.2.1).mono ?_; rintro e z2 ⟨rfl, rfl⟩; rw [HV.out.2])
                | (go_at_call 14; refine (victim_ap (sep_drew (ap_frm _ _ _ _ _ _) HB.out.1) x2).mono ?_; rintro e z1 ⟨k1, rfl, hk1, h⟩; have hP1 : z1.cell? ⟨ob, 2, none⟩ = some (.int .u64 x2) := hk1 ▸ hP0.2; rw [HV.out.1]; have Z1 := Lib.hid h; clear h hk1))
              have Z3 := Lib.hid Z1.out
              clear hP0 hP1
              go_wp2
              go_ret
              exact ⟨by simp, _, _, _, ap_more Z3.out (Nat.le_succ k) (Nat.le_succ k), HS.out.1.more⟩
end Go.Proofs.Ytldnacphfoagnad
