/- The reference of layer 15 (policy) and policy, off memory: what keeps them alike. -/
import Derived.Test.YtgdlndpjfejmcaaGreatPrA
import Derived.Test.YtgdlndpjfejmcaaGreatPolSep
namespace Go.Proofs.YtgdlndpjfejmcaaGreat
open Go.RowKit
set_option linter.unusedVariables false
theorem act_out (Al : List Int) (id : Int) : Seg.setB' (Seg.actOf Al) id false = Seg.actOf (Al.filter (· != id)) := by
  funext x
  unfold Seg.setB' Seg.actOf
  by_cases e : x = id
  · rw [if_pos e]; symm; exact decide_eq_false (fun q => by have := (List.mem_filter.1 q).2; simp at this; exact this e)
  · rw [if_neg e]; exact decide_eq_decide.2 ⟨fun q => List.mem_filter.2 ⟨q, by simpa using e⟩, fun q => (List.mem_filter.1 q).1⟩
theorem act_in (L : Nat → List Int) (Al : List Int) (id : Int) : Seg.touA L (Seg.actOf Al) id = Seg.actOf (if 0 ≤ rowOf 3 L id then Al.filter (· != id) ++ [id] else Al) := by
  unfold Seg.touA
  by_cases hr : 0 ≤ rowOf 3 L id
  · rw [if_pos hr, if_pos hr]
    funext x
    unfold Seg.setB' Seg.actOf
    by_cases e : x = id
    · rw [if_pos e]; symm; exact decide_eq_true (by rw [e]; simp)
    · rw [if_neg e]; exact decide_eq_decide.2 ⟨fun q => List.mem_append_left _ (List.mem_filter.2 ⟨q, by simpa using e⟩), fun q => (List.mem_append.1 q).elim (fun q => (List.mem_filter.1 q).1) (fun q => absurd (List.mem_singleton.1 q) e)⟩
  · rw [if_neg hr, if_neg hr]
theorem act_step (L : Nat → List Int) (Al : List Int) : Seg.stepA L (Seg.actOf Al) = Seg.actOf (if Seg.whoF L (Seg.actOf Al) < 0 then Al else Al.filter (· != Seg.whoF L (Seg.actOf Al))) := by
  unfold Seg.stepA
  split
  · rfl
  · exact act_out Al _
/-- Going to the front keeps rows apart. -/
theorem dsj_front {n : Nat} {L : Nat → List Int} (h : Dsj n L) (row id : Int) : Dsj n (frontL n L row id) := by
  unfold frontL
  split
  · intro a b ha hb x h1 h2
    unfold putF del at h1 h2
    have hx : ∀ {s : Nat}, x ∈ (if s = row.toNat then id :: (L s).filter (· != id) else (L s).filter (· != id)) → (x = id ∧ s = row.toNat) ∨ (x ≠ id ∧ x ∈ L s) := by
      intro s q
      have hf : x ∈ (L s).filter (· != id) → x ≠ id ∧ x ∈ L s := fun q => ⟨by have := (List.mem_filter.1 q).2; simpa using this, (List.mem_filter.1 q).1⟩
      split at q
      · rename_i e
        rcases List.mem_cons.1 q with q | q
        · exact Or.inl ⟨q, e⟩
        · exact Or.inr (hf q)
      · exact Or.inr (hf q)
    rcases hx h1 with ⟨e1, f1⟩ | ⟨e1, f1⟩
    · rcases hx h2 with ⟨e2, f2⟩ | ⟨e2, f2⟩
      · rw [f1, f2]
      · exact absurd e1 e2
    · rcases hx h2 with ⟨e2, f2⟩ | ⟨e2, f2⟩
      · exact absurd e2 e1
      · exact h a b ha hb x f1 f2
  · exact h
theorem len_front {n : Nat} {L : Nat → List Int} {N : Nat} (h : ∀ k, (L k).length ≤ N) (row id : Int) : ∀ k, (frontL n L row id k).length ≤ N + 1 := by
  intro k
  unfold frontL
  split
  · have hf : ((L k).filter (· != id)).length ≤ N := Nat.le_trans (List.length_filter_le _ _) (h k)
    unfold putF del
    split
    · rw [List.length_cons]; omega
    · omega
  · exact Nat.le_succ_of_le (h k)
theorem seg_step_ok {L : Nat → List Int} {A : Int → Bool} {N : Nat} (h : (∀ k, (L k).length ≤ N) ∧ Dsj 3 L) : (∀ k, (Seg.stepL L A k).length ≤ N + 1) ∧ Dsj 3 (Seg.stepL L A) := by
  unfold Seg.stepL
  split
  · exact ⟨fun k => Nat.le_succ_of_le (h.1 k), h.2⟩
  · exact ⟨len_front h.1 _ _, dsj_front h.2 _ _⟩
/-- What the memory of a kind tells. -/
def PNum (N M : Nat) : PK → Prop
  | .pl L => Dsj 1 L ∧ ∀ k, (L k).length ≤ N
  | .sg L _ => Dsj 3 L ∧ ∀ k, (L k).length ≤ N
  | .ar s => Dsj 2 s.L ∧ (∀ k, (s.L k).length ≤ N) ∧ Wid s.L ∧ (∀ r, 2 ≤ r → s.L r = []) ∧ s.B1.length ≤ M ∧ s.B2.length ≤ M
  | .th t => Thr.Gd t ∧ (∀ k, (t.L k).length ≤ N) ∧ (∀ r, 2 ≤ r → t.L r = []) ∧ t.B.length ≤ M
theorem gh_le {w : World} {S : Nat → Prop} {g : Nat} {most : Int} {L : List Int} {N : Nat} (h : GhostAt w S g most L N) : L.length ≤ N := by
  obtain ⟨l, row, first, hI, hT, hL, h0, h1, h2, h3⟩ := h
  have := live_le l row first
  rw [hL] at this
  omega
theorem pk_num {w : World} {S : Nat → Prop} {p : Nat} {k : PK} {N M : Nat} (h : PolAt w S p k N M) : PNum N M k := by
  obtain ⟨T, x, Si, h1, h2, h3, h4, h5⟩ := h
  cases k with
  | pl L =>
    obtain ⟨_, q, _, hR⟩ := h5
    exact ⟨fun a b ha hb x h1 h2 => hR.disj ha hb h1 h2, fun k => hR.len_le k⟩
  | sg L A =>
    obtain ⟨_, q, _, hA⟩ := h5
    obtain ⟨g, Sr, hR, _, _⟩ := Seg.SegAt.rowsAt hA
    exact ⟨fun a b ha hb x h1 h2 => hR.disj ha hb h1 h2, fun k => hR.len_le k⟩
  | ar s =>
    obtain ⟨_, q, _, hA⟩ := h5
    obtain ⟨g, b1, b2, m, l, o, Sr, S1, S2, hO⟩ := hA
    have hR := hO.hR
    exact ⟨fun a b ha hb x h1 h2 => hR.disj ha hb h1 h2, hR.len_le, fun r x hr hx => hR.range hr hx, fun r hr => hR.nil hr, gh_le hO.hG1, gh_le hO.hG2⟩
  | th t =>
    obtain ⟨_, q, _, hA⟩ := h5
    obtain ⟨⟨g, b1, m, l, o, Sr, Sg, Sk, hO⟩, hi⟩ := hA
    have hR := hO.hR
    exact ⟨⟨hi, fun r x hr hx => hR.range hr hx, hR.nodup (by decide), hR.nodup (by decide), fun x h1 h2 => by have := hR.disj (r := 0) (s := 1) (by decide) (by decide) h1 h2; omega⟩, hR.len_le, fun r hr => hR.nil hr, gh_le hO.hG⟩
def SynK (j : Nat) : PK → RK → Prop
  | .pl L, .pl L2 => L2 = L
  | .sg L A, .sg L2 Al => L2 = L ∧ A = Seg.actOf Al ∧ Al.length ≤ j
  | .ar s, .ar t => Arc.Syn j s t
  | .th t, .th s => Thr.Syn s t ∧ s.H.length ≤ j
  | _, _ => False
section
variable {j : Nat} {k : PK} {r : RK} {N M : Nat}
theorem SynK.rows (h : SynK j k r) : r.n = k.n ∧ r.L = k.L := by
  cases k <;> cases r <;> first | exact h.elim | skip
  · exact ⟨rfl, h⟩
  · exact ⟨rfl, h.1⟩
  · exact ⟨rfl, h.L⟩
  · exact ⟨rfl, h.1.hL⟩
theorem SynK.has (h : SynK j k r) (id : Int) : r.hasB id = k.hasB id := by
  unfold RK.hasB PK.hasB
  rw [h.rows.1, h.rows.2]
theorem SynK.len (h : SynK j k r) (ho : k.Ok) : r.len = k.len := by
  have hn := ho.nil
  cases k <;> cases r <;> first | exact h.elim | skip
  · rename_i L L2
    have e : L2 = L := h
    subst e
    have e1 := hn 1 (Nat.le_refl 1)
    have e2 := hn 2 (Nat.le_succ 1)
    change L2 1 = [] at e1
    change L2 2 = [] at e2
    show (L2 0).length = (L2 0).length + (L2 1).length + (L2 2).length
    rw [e1, e2]; rfl
  · obtain ⟨e, _, _⟩ := h
    subst e
    rfl
  · rename_i s t
    have e : t.L = s.L := h.L
    have e2 := hn 2 (Nat.le_refl 2)
    change s.L 2 = [] at e2
    show (t.L 0).length + (t.L 1).length = (s.L 0).length + (s.L 1).length + (s.L 2).length
    rw [e, e2]; rfl
  · rename_i t s
    have e : s.L = t.L := h.1.hL
    have e2 := hn 2 (Nat.le_refl 2)
    change t.L 2 = [] at e2
    show (s.L 0).length + (s.L 1).length = (t.L 0).length + (t.L 1).length + (t.L 2).length
    rw [e, e2]; rfl
theorem SynK.more (h : SynK j k r) : SynK (j + 1) k r := by
  cases k <;> cases r <;> first | exact h.elim | skip
  · exact h
  · exact ⟨h.1, h.2.1, Nat.le_succ_of_le h.2.2⟩
  · exact Arc.Syn.more h
  · exact ⟨h.1, Nat.le_succ_of_le h.2⟩
theorem SynK.lim (h : SynK j k r) (hn : PNum N M k) (hj : j ≤ 1000) (hN : N ≤ 1000000) (hM : M ≤ 1000) : RLim r := by
  cases k <;> cases r <;> first | exact h.elim | skip
  · rename_i L L2
    have e : L2 = L := h
    subst e
    exact ⟨fun q => Nat.le_trans (hn.2 q) hN, hn.1⟩
  · obtain ⟨e, _, hl⟩ := h
    subst e
    exact ⟨fun q => Nat.le_trans (hn.2 q) hN, hn.1, by omega⟩
  · rename_i s t
    have h : Arc.Syn j s t := h
    obtain ⟨hd, hl, _, _, hb1, hb2⟩ := hn
    have h0 := h.P0
    have h1 := h.P1
    have h2 := h.Pk
    have h3 := h.len
    exact (show Arc.Lim t from ⟨fun q => by rw [h.L]; exact Nat.le_trans (hl q) hN, by rw [h.L]; exact hd, by omega, by rw [h.most]; omega, by rw [h.B1]; omega, by rw [h.B2]; omega, by rw [h.P]; exact h0, by rw [h.P]; omega⟩)
  · rename_i t s
    obtain ⟨hS, hH⟩ := h
    obtain ⟨g, hl, h2, hb⟩ := hn
    exact (show ThLim s from ⟨fun q => by rw [hS.hL]; exact Nat.le_trans (hl q) hN, by rw [hS.hL]; exact Thr.dsj_gd g, by omega, hS.hnd, hS.inn g.in_, hS.cnt g.in_, by rw [hS.hB]; omega, by rw [hS.hm]; exact hS.h0⟩)
theorem SynK.fit (h : SynK j k r) (hj : j ≤ 1000) : k.fit := by
  cases k <;> cases r <;> first | exact h.elim | trivial | skip
  rename_i s t
  have h : Arc.Syn j s t := h
  exact (show 0 ≤ s.P ∧ s.P ≤ 1000000000000 from ⟨h.P0, by have := h.Pk; omega⟩)
theorem SynK.cost (h : SynK j k r) (hn : PNum N M k) : k.cost ≤ 3 * j + 5 := by
  cases k <;> cases r <;> first | exact h.elim | skip
  · exact Nat.zero_le _
  · show 5 ≤ 3 * j + 5; omega
  · exact Nat.zero_le _
  · rename_i t s
    obtain ⟨hS, hH⟩ := h
    show Thr.measT t ≤ 3 * j + 5
    have := Thr.meas_le hn.1.in_
    have := hS.tot hn.1
    omega
theorem SynK.ins (h : SynK j k r) (hn : PNum N M k) (hM : M ≤ 1000) (id hh : Int) : r.insB id = k.insB id ∧ SynK (j + 1) (k.ins id hh) (r.ins id hh) := by
  cases k <;> cases r <;> first | exact h.elim | skip
  · rename_i L L2
    have e : L2 = L := h
    subst e
    exact ⟨rfl, rfl⟩
  · obtain ⟨e, ha, hl⟩ := h
    subst e
    exact ⟨rfl, rfl, ha, Nat.le_succ_of_le hl⟩
  · rename_i s t
    have h : Arc.Syn j s t := h
    exact ⟨by show Arc.insOkF t id = Arc.insOk s id; unfold Arc.insOk Arc.insOkF; rw [h.L], Arc.syn_ins h (by have := hn.2.2.2.2.1; omega) (by have := hn.2.2.2.2.2; omega) id hh⟩
  · rename_i t s
    obtain ⟨hS, hH⟩ := h
    refine ⟨hS.ok id, hS.put id hh, ?_⟩
    show (if s.inOk id then s.put id hh else s : Thr.TfS).H.length ≤ j + 1
    split
    · show (s.H ++ [(id, hh, 0)]).length ≤ _
      rw [List.length_append]
      show s.H.length + 1 ≤ _
      omega
    · omega
theorem SynK.tou (h : SynK j k r) (hn : PNum N M k) (id : Int) : r.touB id = k.touB id ∧ SynK (j + 1) (k.tou id) (r.tou id) := by
  cases k <;> cases r <;> first | exact h.elim | skip
  · rename_i L L2
    have e : L2 = L := h
    subst e
    exact ⟨rfl, rfl⟩
  · obtain ⟨e, ha, hl⟩ := h
    subst e
    subst ha
    refine ⟨rfl, rfl, act_in _ _ _, ?_⟩
    split
    · rename_i Al _
      have := List.length_filter_le (· != id) Al
      rw [List.length_append]
      show _ + 1 ≤ _
      omega
    · omega
  · rename_i s t
    have h : Arc.Syn j s t := h
    have := Arc.syn_touch h hn.2.2.1 id
    exact ⟨this.1, (show Arc.Syn (j + 1) (Arc.touchA s id) _ from this.2.more)⟩
  · rename_i t s
    obtain ⟨hS, hH⟩ := h
    refine ⟨by show (Thr.lk s.H id).isSome = (t.K id).isSome; rw [hS.hK], hS.touch id, ?_⟩
    show (s.touch id).H.length ≤ j + 1
    have : (s.touch id).H.length = s.H.length := by
      unfold Thr.TfS.touch
      split
      · unfold Thr.TfS.setc Thr.setN
        show (match s.H[(Thr.fnd s.H id).toNat]? with | some x => s.H.set (Thr.fnd s.H id).toNat (x.1, x.2.1, _) | none => s.H).length = _
        split
        · rw [List.length_set]
        · rfl
      · rfl
    omega
theorem syn_rem_th {s : Thr.TfS} {t : Thr.ThS} (hS : Thr.Syn s t) (hi : Thr.ThIn t) (h2 : ∀ r, 2 ≤ r → t.L r = []) (id : Int) : Thr.Syn (s.rem id) (Thr.remT t id) := by
  unfold Thr.TfS.rem
  by_cases e : 0 ≤ rowOf 2 s.L id
  · rw [if_pos e]; exact hS.drop id
  · rw [if_neg e]; exact hS.none hi h2 e
theorem syn_ev_th {s : Thr.TfS} {t : Thr.ThS} (hS : Thr.Syn s t) (hi : Thr.ThIn t) (h2 : ∀ r, 2 ≤ r → t.L r = []) (id : Int) : Thr.Syn (s.ev id) (Thr.evT t id) := by
  unfold Thr.TfS.ev Thr.evT
  have hnum : s.num id = Thr.numT t id := by unfold Thr.TfS.num Thr.numT; rw [hS.hK]; rcases t.K id with _ | ⟨a, c⟩ <;> rfl
  by_cases e : rowOf 2 s.L id = 0
  · have e2 : rowOf 2 t.L id = 0 := by rw [← hS.hL]; exact e
    have e3 : gadd s.most s.B (s.num id) = gadd t.mB t.B (Thr.numT t id) := by rw [hnum, hS.hm, hS.hB, hS.hmB]
    rw [if_pos e, if_pos e2, e3]
    exact syn_rem_th (t := { t with B := gadd t.mB t.B (Thr.numT t id) }) hS.ghost ⟨hi.in_, hi.cnt⟩ h2 id
  · have e2 : ¬ rowOf 2 t.L id = 0 := by rw [← hS.hL]; exact e
    rw [if_neg e, if_neg e2]
    exact syn_rem_th hS hi h2 id
theorem len_rem_th (s : Thr.TfS) (id : Int) : (s.rem id).H.length ≤ s.H.length := by
  unfold Thr.TfS.rem
  split
  · exact List.length_filter_le _ _
  · exact Nat.le_refl _
theorem len_ev_th (s : Thr.TfS) (id : Int) : (s.ev id).H.length ≤ s.H.length := by
  unfold Thr.TfS.ev
  split
  · exact len_rem_th _ id
  · exact len_rem_th _ id
theorem SynK.rem (h : SynK j k r) (hn : PNum N M k) (id : Int) : SynK j (k.rem id) (r.rem id) := by
  cases k <;> cases r <;> first | exact h.elim | skip
  · rename_i L L2
    have e : L2 = L := h
    subst e
    exact rfl
  · obtain ⟨e, ha, hl⟩ := h
    subst e
    subst ha
    exact ⟨rfl, act_out _ _, Nat.le_trans (List.length_filter_le _ _) hl⟩
  · rename_i s t
    exact (show Arc.Syn j (Arc.remA s id) (t.drop id) from Arc.syn_rem h id)
  · rename_i t s
    obtain ⟨hS, hH⟩ := h
    exact ⟨syn_rem_th hS hn.1.in_ hn.2.2.1 id, Nat.le_trans (len_rem_th s id) hH⟩
theorem SynK.evi (h : SynK j k r) (hn : PNum N M k) (id : Int) : SynK j (k.evi id) (r.evi id) := by
  cases k <;> cases r <;> first | exact h.elim | skip
  · rename_i L L2
    have e : L2 = L := h
    subst e
    exact rfl
  · obtain ⟨e, ha, hl⟩ := h
    subst e
    subst ha
    exact ⟨rfl, act_out _ _, Nat.le_trans (List.length_filter_le _ _) hl⟩
  · rename_i s t
    exact (show Arc.Syn j (Arc.evictA s id) (t.evict id) from Arc.syn_evict h hn.2.2.2.1 id)
  · rename_i t s
    obtain ⟨hS, hH⟩ := h
    exact ⟨syn_ev_th hS hn.1.in_ hn.2.2.1 id, Nat.le_trans (len_ev_th s id) hH⟩
theorem SynK.cap (h : SynK j k r) (n : Int) : SynK (j + 1) (k.cap n) (r.cap n) := by
  cases k <;> cases r <;> first | exact h.elim | skip
  · exact h
  · exact ⟨h.1, h.2.1, Nat.le_succ_of_le h.2.2⟩
  · rename_i s t
    exact (show Arc.Syn (j + 1) (Arc.capA s n) (t.cap n) from Arc.syn_cap h n)
  · exact ⟨h.1.cap n, Nat.le_succ_of_le h.2⟩
end
def RK.new : Nat → RK
  | 0 => .pl (fun _ => [])
  | 1 => .sg (fun _ => []) []
  | 2 => .ar Arc.af0
  | _ => .th Thr.tf0
theorem synk_new (n : Nat) : SynK 0 (PK.new n) (RK.new n) := by
  match n with
  | 0 => exact rfl
  | 1 => exact ⟨rfl, by funext x; unfold Seg.actOf; simp, Nat.le_refl _⟩
  | 2 => exact Arc.syn_start
  | _ + 3 => exact ⟨Thr.syn0, Nat.le_refl _⟩
end Go.Proofs.YtgdlndpjfejmcaaGreat
