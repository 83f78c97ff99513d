/- Two structures side by side, each in blocks of its own. -/
import Derived.Test.YtlhiglhhnjljpaaSep
import Derived.Test.YtlhiglhhnjljpaaChecked
import Derived.Test.YtlhiglhhnjljpaaTfZ
import Derived.Test.YtlhiglhhnjljpaaThShown
import Derived.Deep.QuietTactic
import Derived.BigQuiet
import Derived.Deep.DeepCutAuto
import Derived.Deep.RegionHeld3
namespace Go.Proofs.Ytlhiglhhnjljpaa
open Go.RowKit
set_option linter.unusedVariables false
/-- A structure that stays where its blocks stay. -/
def Frm (P : World → (Nat → Prop) → Prop) : Prop := ∀ (w w' : World) (S : Nat → Prop), w.heap.size ≤ w'.heap.size → (∀ b, b < w.heap.size → S b → w'.heap[b]? = w.heap[b]?) → P w S → P w' S
def Two (A B : World → (Nat → Prop) → Prop) (w : World) (S : Nat → Prop) : Prop :=
  ∃ S1 S2 : Nat → Prop, (∀ b, S1 b → S b) ∧ (∀ b, S2 b → S b) ∧ (∀ b, S1 b → S2 b → False) ∧ A w S1 ∧ B w S2
theorem two_frm {A B : World → (Nat → Prop) → Prop} (hA : Frm A) (hB : Frm B) : Frm (Two A B) := fun w w' S hz hf ⟨S1, S2, h1, h2, h3, a, b⟩ =>
  ⟨S1, S2, h1, h2, h3, hA w w' S1 hz (fun b hb q => hf b hb (h1 b q)) a, hB w w' S2 hz (fun b hb q => hf b hb (h2 b q)) b⟩
section
variable {w0 w w' : World} {S : Nat → Prop} {P A B A' B' : World → (Nat → Prop) → Prop} {F : FuncId} {av : Array Value} {R : Ending → Prop}
theorem sep_keep (hP : Frm P) (h : Sep P w0 w S) {F : Nat → Prop} (hF : Fr F w w') (hd : ∀ b, b < w.heap.size → S b → ¬ F b) (h0 : ∀ b, b < w0.heap.size → ¬ F b) : Sep P w0 w' S :=
  h.keep hF hd h0 (fun hA hf => hP _ _ _ hF.size hf hA)
theorem sep_drewN (hP : Frm P) (h : Sep P w0 w S) (k : Nat) : Sep P w0 (w.drewN k) S := ⟨hP w (w.drewN k) S (Nat.le_refl _) (fun _ _ _ => rfl) h.at_, h.fr.drewN k, h.lo, h.hi⟩
theorem sep_drew (hP : Frm P) (h : Sep P w0 w S) : Sep P w0 w.drew S := ⟨hP w w.drew S (Nat.le_refl _) (fun _ _ _ => rfl) h.at_, h.fr.drew, h.lo, h.hi⟩
theorem sep_fr (hP : Frm P) (h : Sep P w0 w S) (hF : Fr (fun b => w.heap.size ≤ b) w w') : Sep P w0 w' S := sep_keep hP h hF (fun b hb _ => by omega) (fun b hb => by have := h.fr.size; omega)
theorem sep_held_set (hP : Frm P) {T : TypeId} {b off m cap : Nat} {xs : List Value} (hS : Sep P w0 w S) (h : Held w0 w S T 1 (.slice (some ⟨b, off, none⟩) m cap) m xs) {i : Nat} (hi : i < m) (u : Value) :
    Held w0 (w.setCell ⟨b, off + i, none⟩ u) S T 1 (.slice (some ⟨b, off, none⟩) m cap) m (xs.set i u) ∧ Sep P w0 (w.setCell ⟨b, off + i, none⟩ u) S := by
  have hx : i < xs.length := by have := h.1; omega
  obtain ⟨b', off', cap', hv, hSb, _⟩ := Sl.pos h (by omega)
  simp at hv
  obtain ⟨⟨rfl, rfl⟩, rfl⟩ := hv
  exact ⟨Sl.set h hx u, sep_keep hP hS (F := fun k => k = b) (Fr.setCell (Fr.refl (fun k => k = b) w) (p := ⟨b, off + i, none⟩) (fun _ => rfl) u) (fun k _ s q => hSb.1 (q ▸ s)) (fun k hk q => by have := hSb.2; omega)⟩
/-- What is of another make stays. -/
theorem sl_set_beside {S2 : Nat → Prop} {T T2 : TypeId} {b off m cap sz n : Nat} {xs ys : List Value} {v : Value} (h : Sl w S T 1 (.slice (some ⟨b, off, none⟩) m cap) m xs) {i : Nat} (hi : i < m) (h2 : Sl w S2 T2 sz v n ys) (hT : T ≠ T2) (u : Value) : Sl (w.setCell ⟨b, off + i, none⟩ u) S2 T2 sz v n ys := by
  obtain ⟨h1, hh⟩ := h
  rcases hh with ⟨_, hh⟩ | ⟨b', off', cap', c, hv, hS, hb, _⟩
  · omega
  · simp at hv
    obtain ⟨⟨rfl, rfl⟩, rfl⟩ := hv
    exact h2.setCell_other hb hT _ _
theorem Held.keep' {T : TypeId} {sz : Nat} {v : Value} {n : Nat} {xs : List Value} (hS : Sep P w0 w S) (h : Held w0 w S T sz v n xs) (hF : Fr (fun b => w.heap.size ≤ b) w w') : Held w0 w' S T sz v n xs :=
  Held.keep h hF (fun b hb => by omega)
theorem two_left (hB : Frm B) (h : Sep (Two A B) w0 w S) (hc : ∀ S1, A w S1 → Calls Try.prog F av w fun e w' => R e ∧ A' w' (grow S1 w w') ∧ Fr S1 w w') :
    Calls Try.prog F av w fun e w' => R e ∧ Sep (Two A' B) w0 w' (grow S w w') ∧ Fr S w w' := by
  obtain ⟨S1, S2, h1, h2, h3, hA, hR⟩ := h.at_
  refine (hc S1 hA).mono fun e w' ⟨he, hA', hF⟩ => ?_
  have hF' : Fr S w w' := hF.mono fun b _ q => h1 b q
  exact ⟨he, h.next ⟨grow S1 w w', S2, fun b q => q.imp (h1 b) (fun q => q), fun b q => Or.inl (h2 b q), fun b q q2 => q.elim (fun q => h3 b q q2) (fun q => by have := h.hi b (h2 b q2); omega), hA', hB _ _ _ hF.size (fun b hb q => hF.block b hb (fun q2 => h3 b q2 q)) hR⟩ hF', hF'⟩
theorem two_right (hA : Frm A) (h : Sep (Two A B) w0 w S) (hc : ∀ S2, B w S2 → Calls Try.prog F av w fun e w' => R e ∧ B' w' (grow S2 w w') ∧ Fr S2 w w') :
    Calls Try.prog F av w fun e w' => R e ∧ Sep (Two A B') w0 w' (grow S w w') ∧ Fr S w w' := by
  obtain ⟨S1, S2, h1, h2, h3, ha, hR⟩ := h.at_
  refine (hc S2 hR).mono fun e w' ⟨he, hR', hF⟩ => ?_
  have hF' : Fr S w w' := hF.mono fun b _ q => h2 b q
  exact ⟨he, h.next ⟨S1, grow S2 w w', fun b q => Or.inl (h1 b q), fun b q => q.imp (h2 b) (fun q => q), fun b q q2 => q2.elim (fun q2 => h3 b q q2) (fun q2 => by have := h.hi b (h1 b q); omega), hA _ _ _ hF.size (fun b hb q => hF.block b hb (fun q2 => h3 b q q2)) ha, hR'⟩ hF', hF'⟩
theorem two_new {w1 w2 : World} (hA : Frm A) (hF0 : Fr (From w0.heap.size) w0 w1) (ha : A w1 (fun b => w.heap.size ≤ b ∧ b < w1.heap.size)) (hw0 : w0.heap.size ≤ w.heap.size) (hww : w.heap.size ≤ w1.heap.size) (hb : B w2 (fun b => w1.heap.size ≤ b ∧ b < w2.heap.size)) (hF2 : Fr (fun _ => False) w1 w2) :
    Sep (Two A B) w0 w2 (fun b => w.heap.size ≤ b ∧ b < w2.heap.size) := by
  have hz := hF2.size
  exact ⟨⟨_, _, fun b q => ⟨q.1, by omega⟩, fun b q => ⟨Nat.le_trans hww q.1, q.2⟩, fun b q q2 => by omega, hA _ _ _ hF2.size (fun b hb _ => hF2.block b hb (fun q => q)) ha, hb⟩, hF0.trans hF2 (fun _ _ q => q.elim), fun b q => Nat.le_trans hw0 q.1, fun b q => q.2⟩
end
end Go.Proofs.Ytlhiglhhnjljpaa
/- Layer 14 (sthree) and its reference, side by side. -/
namespace Go.Proofs.Ytlhiglhhnjljpaa
open Go.RowKit
set_option linter.unusedVariables false
theorem ghost_le {w : World} {S : Nat → Prop} {g : Nat} {most : Int} {L : List Int} {N : Nat} (h : GhostAt w S g most L N) : L.length ≤ N := by
  obtain ⟨l, row, first, hI, hT, hL, h0, h1, h2, h3⟩ := h
  have := live_le l row first
  rw [hL] at this
  omega
def QA (p : Nat) (t : ThS) (N M : Nat) (w : World) (S : Nat → Prop) : Prop := ThAt w S p t N M
def QB (q : Nat) (s : TfS) (w : World) (S : Nat → Prop) : Prop := Tf w S q s
theorem qa_frm (p : Nat) (t : ThS) (N M : Nat) : Frm (QA p t N M) := fun w w' S hz hf h => ThAt.frame h hz hf
theorem qb_frm (q : Nat) (s : TfS) : Frm (QB q s) := fun w w' S hz hf h => Tf.frame h hz hf
def TP (p q : Nat) (t : ThS) (s : TfS) (N M : Nat) : World → (Nat → Prop) → Prop := Two (QA p t N M) (QB q s)
theorem tp_frm (p q : Nat) (t : ThS) (s : TfS) (N M : Nat) : Frm (TP p q t s N M) := two_frm (qa_frm p t N M) (qb_frm q s)
/-- What the reference's calls ask for. -/
structure LimT (s : TfS) : Prop where
  N : ∀ k, (s.L k).length ≤ 1000000
  d : Dsj 2 s.L
  H : s.H.length < 1000000
  nd : (ids s.H).Nodup
  in_ : ∀ x, x ∈ ids s.H ↔ 0 ≤ rowOf 2 s.L x
  c : ∀ x ∈ s.H, 0 ≤ x.2.2 ∧ x.2.2 ≤ 3
  B : s.B.length < 1000000
  m : 0 ≤ s.most
section
variable {w0 w w' : World} {S : Nat → Prop} {p q : Nat} {t t' : ThS} {s s' : TfS} {N N' M M' k : Nat}
theorem tp_th (h : Sep (TP p q t s N M) w0 w S) : ∃ S1, ThAt w S1 p t N M := by obtain ⟨S1, S2, h1, h2, h3, hA, hR⟩ := h.at_; exact ⟨S1, hA⟩
theorem tp_ref (h : Sep (TP p q t s N M) w0 w S) : ∃ S2, Tf w S2 q s ∧ ∀ b, S2 b → S b := by obtain ⟨S1, S2, h1, h2, h3, hA, hR⟩ := h.at_; exact ⟨S2, hR, h2⟩
theorem tp_more (h : Sep (TP p q t s N M) w0 w S) (hN : N ≤ N') (hM : M ≤ M') : Sep (TP p q t s N' M') w0 w S := h.as (fun hA => by obtain ⟨S1, S2, h1, h2, h3, hA, hR⟩ := hA; exact ⟨S1, S2, h1, h2, h3, ThAt.more hA hN hM, hR⟩)
/-- What the rows and the ghost keep. -/
theorem tp_nums (h : Sep (TP p q t s N M) w0 w S) : Gd t ∧ (∀ k, (t.L k).length ≤ N) ∧ (∀ r, 2 ≤ r → t.L r = []) ∧ t.B.length ≤ M := by
  obtain ⟨S1, ⟨g, b1, m, l, o, Sr, Sg, Sk, hO⟩, hi⟩ := tp_th h
  have hR := hO.hR
  exact ⟨⟨hi, fun r x hr hx => hR.range hr hx, hR.nodup (by decide), hR.nodup (by decide), fun x h1 h2 => by have := hR.disj (r := 0) (s := 1) (by decide) (by decide) h1 h2; omega⟩, hR.len_le, fun r hr => hR.nil hr, ghost_le hO.hG⟩
theorem Syn.limT (hS : Syn s t) (h : Sep (TP p q t s N M) w0 w S) (hN : N ≤ 1000000) (hM : M < 1000000) (hH : s.H.length < 1000000) : LimT s := by
  obtain ⟨g, hl, h2, hb⟩ := tp_nums h
  exact ⟨fun k => by rw [hS.hL]; exact Nat.le_trans (hl k) hN, by rw [hS.hL]; exact dsj_gd g, hH, hS.hnd, hS.inn g.in_, hS.cnt g.in_, by rw [hS.hB]; omega, by rw [hS.hm]; exact hS.h0⟩
theorem Syn.rem (hS : Syn s t) (hi : ThIn t) (h2 : ∀ r, 2 ≤ r → t.L r = []) (id : Int) : Syn (s.rem id) (remT t id) := by
  unfold TfS.rem
  by_cases e : 0 ≤ rowOf 2 s.L id
  · rw [if_pos e]; exact hS.drop id
  · rw [if_neg e]; exact hS.none hi h2 e
theorem Syn.ev (hS : Syn s t) (hi : ThIn t) (h2 : ∀ r, 2 ≤ r → t.L r = []) (id : Int) : Syn (s.ev id) (evT t id) := by
  unfold TfS.ev evT
  have hnum : s.num id = numT t id := by unfold TfS.num numT; rw [hS.hK]; rcases t.K id with _ | ⟨a, c⟩ <;> rfl
  by_cases e : rowOf 2 s.L id = 0
  · have e2 : rowOf 2 t.L id = 0 := by rw [← hS.hL]; exact e
    have e3 : gadd s.most s.B (s.num id) = gadd t.mB t.B (numT t id) := by rw [hnum, hS.hm, hS.hB, hS.hmB]
    rw [if_pos e, if_pos e2, e3]
    exact Syn.rem (t := { t with B := gadd t.mB t.B (numT t id) }) hS.ghost ⟨hi.in_, hi.cnt⟩ h2 id
  · have e2 : ¬ rowOf 2 t.L id = 0 := by rw [← hS.hL]; exact e
    rw [if_neg e, if_neg e2]
    exact hS.rem hi h2 id
theorem cap_tp (h : Sep (TP p q t s N M) w0 w S) (n : Int) (hM : M ≤ 1000000) :
    Calls Try.prog 15 #[.pointer (some ⟨p, 0, none⟩), .int .i64 n] w fun e w' => e = .returned (.tuple #[]) ∧ Sep (TP p q (capT t n) s N M) w0 w' (grow S w w') ∧ Fr S w w' :=
  two_left (qb_frm q s) h fun S1 hA => th_cap S1 p t N M n w hA hM
theorem rcap_tp (h : Sep (TP p q t s N M) w0 w S) (n : Int) (hL : LimT s) :
    Calls Try.prog 29 #[.pointer (some ⟨q, 0, none⟩), .int .i64 n] w fun e w' => e = .returned (.tuple #[]) ∧ Sep (TP p q t (s.cap n) N M) w0 w' (grow S w w') ∧ Fr S w w' :=
  two_right (qa_frm p t N M) h fun S2 hA => tf_cap S2 q s n w hA (Nat.le_of_lt hL.B)
theorem insert_tp (h : Sep (TP p q t s N M) w0 w S) (id hh : Int) (hN : N < 1000000) (hM : M ≤ 1000000) :
    Calls Try.prog 16 #[.pointer (some ⟨p, 0, none⟩), .int .i64 id, .int .u64 hh] w fun e w' => e = .returned (.bool (inOk t id)) ∧ Sep (TP p q (inT t id hh) s (N + 1) M) w0 w' (grow S w w') ∧ Fr S w w' :=
  two_left (qb_frm q s) h fun S1 hA => th_insert S1 p t N M id hh w hA hN hM
theorem rinsert_tp (h : Sep (TP p q t s N M) w0 w S) (id hh : Int) (hL : LimT s) :
    Calls Try.prog 24 #[.pointer (some ⟨q, 0, none⟩), .int .i64 id, .int .u64 hh] w fun e w' => e = .returned (.bool (s.inOk id)) ∧ Sep (TP p q t (if s.inOk id then s.put id hh else s) N M) w0 w' (grow S w w') ∧ Fr S w w' :=
  two_right (qa_frm p t N M) h fun S2 hA => tf_insert S2 q s id hh w hA hL.N hL.d hL.H (Nat.le_of_lt hL.B)
theorem touch_tp (h : Sep (TP p q t s N M) w0 w S) (id : Int) :
    Calls Try.prog 17 #[.pointer (some ⟨p, 0, none⟩), .int .i64 id] w fun e w' => e = .returned (.bool (t.K id).isSome) ∧ Sep (TP p q (touchT t id) s N M) w0 w' (grow S w w') ∧ Fr S w w' :=
  two_left (qb_frm q s) h fun S1 hA => (th_touch S1 p t N M id w hA).mono fun e w' ⟨he, hA', hF, _⟩ => ⟨he, ThAt.mono hA' fun b _ q => Or.inl q, hF⟩
theorem rtouch_tp (h : Sep (TP p q t s N M) w0 w S) (id : Int) (hL : LimT s) :
    Calls Try.prog 25 #[.pointer (some ⟨q, 0, none⟩), .int .i64 id] w fun e w' => e = .returned (.bool (lk s.H id).isSome) ∧ Sep (TP p q t (s.touch id) N M) w0 w' (grow S w w') ∧ Fr S w w' :=
  two_right (qa_frm p t N M) h fun S2 hA => (tf_touch S2 q s id w hA (Nat.le_of_lt hL.H) hL.c).mono fun e w' ⟨he, hA', hF, _⟩ => ⟨he, Tf.mono hA' fun b _ q => Or.inl q, hF⟩
theorem remove_tp (h : Sep (TP p q t s N M) w0 w S) (id : Int) (hN : N ≤ 1000000) :
    Calls Try.prog 26 #[.pointer (some ⟨p, 0, none⟩), .int .i64 id] w fun e w' => e = .returned (.bool (decide (0 ≤ rowOf 2 t.L id))) ∧ Sep (TP p q (remT t id) s N M) w0 w' (grow S w w') ∧ Fr S w w' :=
  two_left (qb_frm q s) h fun S1 hA => th_remove S1 p t N M id w hA hN
theorem rremove_tp (h : Sep (TP p q t s N M) w0 w S) (id : Int) (hL : LimT s) :
    Calls Try.prog 27 #[.pointer (some ⟨q, 0, none⟩), .int .i64 id] w fun e w' => e = .returned (.bool (decide (0 ≤ rowOf 2 s.L id))) ∧ Sep (TP p q t (s.rem id) N M) w0 w' (grow S w w') ∧ Fr S w w' :=
  two_right (qa_frm p t N M) h fun S2 hA => tf_rem S2 q s id w hA hL.N hL.d (Nat.le_of_lt hL.H) hL.nd hL.in_
theorem evict_tp (h : Sep (TP p q t s N M) w0 w S) (id : Int) (hN : N ≤ 1000000) (hM : M < 1000000) :
    Calls Try.prog 19 #[.pointer (some ⟨p, 0, none⟩), .int .i64 id] w fun e w' => e = .returned (.bool (decide (0 ≤ rowOf 2 t.L id))) ∧ Sep (TP p q (evT t id) s N (M + 1)) w0 w' (grow S w w') ∧ Fr S w w' :=
  two_left (qb_frm q s) h fun S1 hA => th_evict S1 p t N M id w hA hN hM
theorem revict_tp (h : Sep (TP p q t s N M) w0 w S) (id : Int) (hL : LimT s) :
    Calls Try.prog 28 #[.pointer (some ⟨q, 0, none⟩), .int .i64 id] w fun e w' => e = .returned (.bool (decide (0 ≤ rowOf 2 s.L id))) ∧ Sep (TP p q t (s.ev id) N M) w0 w' (grow S w w') ∧ Fr S w w' :=
  two_right (qa_frm p t N M) h fun S2 hA => tf_evict S2 q s id w hA hL.N hL.d (Nat.le_of_lt hL.H) hL.nd hL.in_ hL.m hL.B
theorem victim_tp (h : Sep (TP p q t s N M) w0 w S) (hN : N + measT t < 1000000) :
    Calls Try.prog 18 #[.pointer (some ⟨p, 0, none⟩)] w fun e w' => e = .returned (.int .i64 (vicT t).2) ∧ Sep (TP p q (vicT t).1 s (N + measT t) M) w0 w' (grow S w w') ∧ Fr S w w' :=
  two_left (qb_frm q s) h fun S1 hA => (th_victim S1 p t N M w hA hN).mono fun e w' ⟨he, hA', hF, _⟩ => ⟨he, hA', hF⟩
theorem rvictim_tp {t0 : ThS} (h : Sep (TP p q t0 s N M) w0 w S) (hS : Syn s t) (g : Gd t) (h2 : ∀ r, 2 ≤ r → t.L r = []) (hH : s.H.length ≤ 1000000) :
    Calls Try.prog 30 #[.pointer (some ⟨q, 0, none⟩)] w fun e w' => e = .returned (.int .i64 (vicT t).2) ∧ ∃ s', Sep (TP p q t0 s' N M) w0 w' (grow S w w') ∧ Fr S w w' ∧ Syn s' (vicT t).1 ∧ s'.H.length = s.H.length := by
  have := two_right (B' := fun w S => ∃ s', Tf w S q s' ∧ Syn s' (vicT t).1 ∧ s'.H.length = s.H.length) (qa_frm p t0 N M) h fun S2 hA => tf_victim S2 q s t w hA hS g h2 hH
  refine this.mono fun e w' ⟨he, hA, hF⟩ => ⟨he, ?_⟩
  obtain ⟨S1, S2, h1, h2, h3, ha, s', hR, hs, hl⟩ := hA.at_
  exact ⟨s', ⟨⟨S1, S2, h1, h2, h3, ha, hR⟩, hA.fr, hA.lo, hA.hi⟩, hF, hs, hl⟩
theorem count_tp (h : Sep (TP p q t s N M) w0 w S) (id : Int) :
    Calls Try.prog 10 #[.pointer (some ⟨p, 0, none⟩), .int .i64 id] w fun e w' => e = .returned (.int .i64 (countT t id)) ∧ w = w' := by
  obtain ⟨S1, hA⟩ := tp_th h; exact th_count S1 p t N M id w hA
theorem rcount_tp (h : Sep (TP p q t s N M) w0 w S) (id : Int) (hH : s.H.length ≤ 1000000) :
    Calls Try.prog 11 #[.pointer (some ⟨q, 0, none⟩), .int .i64 id] w fun e w' => e = .returned (.int .i64 (cntH s.H id)) ∧ w = w' := by
  obtain ⟨S2, hA, _⟩ := tp_ref h; exact tf_count S2 q s id w hA hH
theorem ghosts_tp (h : Sep (TP p q t s N M) w0 w S) (hM : M ≤ 1000000) :
    Calls Try.prog 8 #[.pointer (some ⟨p, 0, none⟩)] w fun e w' => ∃ v, e = .returned v ∧ Held w0 w' S 29 1 v t.B.length (u64s t.B) ∧ Sep (TP p q t s N M) w0 w' S ∧ Fr (fun b => w.heap.size ≤ b) w w' := by
  obtain ⟨S1, hA⟩ := tp_th h
  exact (th_ghosts S1 p t N M w hA hM).mono fun e w' ⟨v, he, hs, hF⟩ => ⟨v, he, Held.new h hs, sep_fr (tp_frm _ _ _ _ _ _) h hF, hF⟩
/-- The reference's ghost, read by the law itself. -/
theorem rghost_tp (h : Sep (TP p q t s N M) w0 w S) : ∃ b1 a cap S2, w.cell? ⟨q, 1, none⟩ = some (.pointer (some ⟨b1, 0, none⟩)) ∧ w.cell? ⟨b1, 1, none⟩ = some (.slice a s.B.length cap) ∧ Sl w S2 29 1 (.slice a s.B.length cap) s.B.length (u64s s.B) := by
  obtain ⟨S2, ⟨r, b1, sv, Z, hO⟩, _⟩ := tp_ref h
  obtain ⟨s1, _, hp1, hl1⟩ := hO.h1
  have d1 := cell_of_heap hp1 1
  simp at d1
  obtain ⟨a1, cap1, rfl, _⟩ := hl1.shape
  exact ⟨b1, a1, cap1, _, hO.cells.2.1, d1, hl1⟩
theorem all_tp (h : Sep (TP p q t s N M) w0 w S) (hN : N ≤ 1000000) : ∃ g, w.cell? ⟨p, 0, none⟩ = some (.pointer (some ⟨g, 0, none⟩)) ∧ ∀ row, Calls Try.prog 12 #[.pointer (some ⟨g, 0, none⟩), .int .i64 row] w fun e w' =>
      ∃ v, e = .returned v ∧ Held w0 w' S 3 1 v (rowL t.L row).length ((rowL t.L row).map (Value.int .i64)) ∧ Sep (TP p q t s N M) w0 w' S ∧ Fr (fun b => w.heap.size ≤ b) w w' := by
  obtain ⟨S1, ⟨g, b1, m, l, o, Sr, Sg, Sk, hO⟩, hi⟩ := tp_th h
  have c0 := cell_of_heap hO.hp 0
  simp at c0
  exact ⟨g, c0, fun row => (rows_all Sr g 2 t.L N row w hO.hR hN).mono fun e w' ⟨v, he, hs, hB⟩ => ⟨v, he, Held.new h hs, sep_fr (tp_frm _ _ _ _ _ _) h (Fr.of_below hB), Fr.of_below hB⟩⟩
theorem rall_tp (h : Sep (TP p q t s N M) w0 w S) : ∃ r, w.cell? ⟨q, 0, none⟩ = some (.pointer (some ⟨r, 0, none⟩)) ∧ ∀ row, Calls Try.prog 14 #[.pointer (some ⟨r, 0, none⟩), .int .i64 row] w fun e w' =>
      ∃ a cap S2, e = .returned (.slice a (rowL s.L row).length cap) ∧ Sl w S2 3 1 (.slice a (rowL s.L row).length cap) (rowL s.L row).length ((rowL s.L row).map (Value.int .i64)) ∧ w = w' := by
  obtain ⟨S2, ⟨r, b1, sv, Z, hO⟩, _⟩ := tp_ref h
  exact ⟨r, hO.cells.1, fun row => (rf_all (Z 0) r 2 s.L row w hO.hR).mono fun e w' ⟨a, cap, he, hs, hw⟩ => ⟨a, cap, Z 0, he, hs, hw⟩⟩
end
end Go.Proofs.Ytlhiglhhnjljpaa
/- The law's step: both do the same, and answer the same. -/
namespace Go.Proofs.Ytlhiglhhnjljpaa
open Go.RowKit
set_option linter.unusedVariables false
/-- The step's own cells stay. -/
def Kp (ob : Nat) (x1 x2 : Int) (z : World) (S : Nat → Prop) : Prop := ob < z.heap.size ∧ ¬ S ob ∧ z.cell? ⟨ob, 1, none⟩ = some (.int .i64 x1) ∧ z.cell? ⟨ob, 2, none⟩ = some (.int .u64 x2)
theorem Kp.step {ob : Nat} {x1 x2 : Int} {z z' : World} {S : Nat → Prop} (h : Kp ob x1 x2 z S) (hF : Fr S z z') : Kp ob x1 x2 z' (grow S z z') :=
  ⟨Nat.lt_of_lt_of_le h.1 hF.size, fun q => q.elim h.2.1 (fun q => by have := h.1; have := q.1; omega), (hF.cell (p := ⟨ob, 1, none⟩) h.1 h.2.1).trans h.2.2.1, (hF.cell (p := ⟨ob, 2, none⟩) h.1 h.2.1).trans h.2.2.2⟩
theorem len_touch (s : TfS) (id : Int) : (s.touch id).H.length = s.H.length := by
  unfold TfS.touch
  split
  · unfold TfS.setc setN
    show (match s.H[(fnd s.H id).toNat]? with | some x => s.H.set (fnd s.H id).toNat (x.1, x.2.1, _) | none => s.H).length = _
    split
    · rw [List.length_set]
    · rfl
  · rfl
theorem len_rem (s : TfS) (id : Int) : (s.rem id).H.length ≤ s.H.length := by
  unfold TfS.rem
  split
  · exact List.length_filter_le _ _
  · exact Nat.le_refl _
theorem len_ev (s : TfS) (id : Int) : (s.ev id).H.length ≤ s.H.length := by
  unfold TfS.ev
  split
  · exact len_rem _ id
  · exact len_rem _ id
theorem len_put (s : TfS) (id hh : Int) : (if s.inOk id then s.put id hh else s : TfS).H.length ≤ s.H.length + 1 := by
  split
  · show (s.H ++ [(id, hh, 0)]).length ≤ _
    rw [List.length_append]; exact Nat.le_refl _
  · omega
set_option maxHeartbeats 8000000 in
theorem does_ok {w0 w : World} {S : Nat → Prop} {p q : Nat} {t : ThS} {s : TfS} {k : Nat} (h : Sep (TP p q t s (k * 700) k) w0 w S) (hS : Syn s t) (hl : s.H.length ≤ k) (hk : k ≤ 200) (x0 x1 x2 : Int) :
    Calls Try.prog 7 #[.pointer (some ⟨p, 0, none⟩), .pointer (some ⟨q, 0, none⟩), .agg #[.int .i64 x0, .int .i64 x1, .int .u64 x2]] w fun e w' => e = .returned (.bool true) ∧ ∃ t' s' S', Sep (TP p q t' s' ((k + 1) * 700) (k + 1)) w0 w' S' ∧ Syn s' t' ∧ s'.H.length ≤ k + 1 := by
  have hLim := hS.limT h (by omega) (by omega) (by omega)
  have hnum := tp_nums h
  have hme : measT t ≤ 3 * k := by have := meas_le hnum.1.in_; have := hS.tot hnum.1; omega
  have HS := Lib.hid (And.intro hS (And.intro hLim (And.intro hnum (And.intro hl hme))))
  have Hk := Lib.hid hk
  have HH := Lib.hid h
  clear h hS hLim hnum hl hk hme
  go_enter Try.func7, Try.ntmps7
  go_upto_region 1 with fail
  obtain ⟨ob, hob⟩ : ∃ ob, w.heap.size = ob := ⟨_, rfl⟩
  have hB2 : Sep (TP p q t s (k * 700) k) w0 (w.alloc (.cells #[.int .i64 x0, .int .i64 x1, .int .u64 x2] 31)) S := sep_fr (tp_frm _ _ _ _ _ _) HH.out ((Fr.refl _ w).alloc _)
  have e0 : (w.alloc (.cells #[.int .i64 x0, .int .i64 x1, .int .u64 x2] 31)).cell? ⟨w.heap.size, 0, none⟩ = some (.int .i64 x0) := by simp
  have e1 : (w.alloc (.cells #[.int .i64 x0, .int .i64 x1, .int .u64 x2] 31)).cell? ⟨w.heap.size, 1, none⟩ = some (.int .i64 x1) := by simp
  have e2 : (w.alloc (.cells #[.int .i64 x0, .int .i64 x1, .int .u64 x2] 31)).cell? ⟨w.heap.size, 2, none⟩ = some (.int .u64 x2) := by simp
  have hsz : ob < (w.alloc (.cells #[.int .i64 x0, .int .i64 x1, .int .u64 x2] 31)).heap.size := by simp; omega
  have hnS : ¬ S ob := fun g => by have := HH.out.hi _ g; omega
  rw [hob] at e0 e1 e2 ⊢
  obtain ⟨wo, hwo⟩ : ∃ wo, w.alloc (.cells #[.int .i64 x0, .int .i64 x1, .int .u64 x2] 31) = wo := ⟨_, rfl⟩
  rw [hwo] at hB2 e0 e1 e2 hsz ⊢
  have HB := Lib.hid (And.intro hB2 (show Kp ob x1 x2 wo S from ⟨hsz, hnS, e1, e2⟩))
  have hP0 : wo.drew.cell? ⟨ob, 1, none⟩ = some (.int .i64 x1) ∧ wo.drew.cell? ⟨ob, 2, none⟩ = some (.int .u64 x2) := ⟨e1, e2⟩
  clear hB2 hsz hnS hwo hob HH
  by_cases h1 : x0 = 1
  · subst h1
    obtain ⟨bm, hbm⟩ : ∃ bm, inOk t x1 = bm := ⟨_, rfl⟩
    have hbr : s.inOk x1 = bm := by rw [← hbm, HS.out.1.ok]
    have HBM := Lib.hid (And.intro hbm hbr)
    clear hbm hbr
    go_wp2_with fail
    go_region_held3 (fun w' => w'.cell? ⟨ob, 1, none⟩ = some (.int .i64 x1) ∧ w'.cell? ⟨ob, 2, none⟩ = some (.int .u64 x2)) (first | exact hP0 | exact hP1 | exact hP2) (first
      | (go_at_call 24; refine (rinsert_tp Z1.out.1 x1 x2 HS.out.2.1).mono ?_; rintro e z2 ⟨rfl, h, hF⟩; have hK := Z1.out.2.step hF; have hP2 := hK.2.2; rw [HBM.out.2]; have Z2 := Lib.hid (And.intro h hK); clear h hF hK)
      | (go_at_call 16; refine (insert_tp (sep_drew (tp_frm _ _ _ _ _ _) HB.out.1) x1 x2 (by have := Hk.out; omega) (by have := Hk.out; omega)).mono ?_; rintro e z1 ⟨rfl, h, hF⟩; have hK := Kp.step (z := wo.drew) HB.out.2 hF; have hP1 := hK.2.2; rw [HBM.out.1]; have Z1 := Lib.hid (And.intro h hK); clear h hF hK))
    have Z3 := Lib.hid Z2.out
    clear hP0 hP1 hP2
    go_wp2
    go_ret
    exact ⟨by simp, _, _, _, tp_more Z3.out.1 (by omega) (by omega), HS.out.1.put x1 x2, by have := len_put s x1 x2; have := HS.out.2.2.2.1; omega⟩
  · have h1b : (x0 == 1) = false := by simpa using h1
    clear h1
    by_cases h2 : x0 = 2
    · subst h2
      obtain ⟨bm, hbm⟩ : ∃ bm, (t.K x1).isSome = bm := ⟨_, rfl⟩
      have hbr : (lk s.H x1).isSome = bm := by rw [← hbm, HS.out.1.hK]
      have HBM := Lib.hid (And.intro hbm hbr)
      clear hbm hbr
      go_wp2_with fail
      go_region_held3 (fun w' => w'.cell? ⟨ob, 1, none⟩ = some (.int .i64 x1) ∧ w'.cell? ⟨ob, 2, none⟩ = some (.int .u64 x2)) (first | exact hP0 | exact hP1 | exact hP2) (first
        | (go_at_call 25; refine (rtouch_tp Z1.out.1 x1 HS.out.2.1).mono ?_; rintro e z2 ⟨rfl, h, hF⟩; have hK := Z1.out.2.step hF; have hP2 := hK.2.2; rw [HBM.out.2]; have Z2 := Lib.hid (And.intro h hK); clear h hF hK)
        | (go_at_call 17; refine (touch_tp (sep_drew (tp_frm _ _ _ _ _ _) HB.out.1) x1).mono ?_; rintro e z1 ⟨rfl, h, hF⟩; have hK := Kp.step (z := wo.drew) HB.out.2 hF; have hP1 := hK.2.2; rw [HBM.out.1]; have Z1 := Lib.hid (And.intro h hK); clear h hF hK))
      have Z3 := Lib.hid Z2.out
      clear hP0 hP1 hP2
      go_wp2
      go_ret
      exact ⟨by simp, _, _, _, tp_more Z3.out.1 (by omega) (by omega), HS.out.1.touch x1, by have := len_touch s x1; have := HS.out.2.2.2.1; omega⟩
    · have h2b : (x0 == 2) = false := by simpa using h2
      clear h2
      by_cases h3 : x0 = 3
      · subst h3
        obtain ⟨bm, hbm⟩ : ∃ bm, decide (0 ≤ rowOf 2 t.L x1) = bm := ⟨_, rfl⟩
        have hbr : decide (0 ≤ rowOf 2 s.L x1) = bm := by rw [← hbm, HS.out.1.hL]
        have HBM := Lib.hid (And.intro hbm hbr)
        clear hbm hbr
        go_wp2_with fail
        go_region_held3 (fun w' => w'.cell? ⟨ob, 1, none⟩ = some (.int .i64 x1) ∧ w'.cell? ⟨ob, 2, none⟩ = some (.int .u64 x2)) (first | exact hP0 | exact hP1 | exact hP2) (first
          | (go_at_call 27; refine (rremove_tp Z1.out.1 x1 HS.out.2.1).mono ?_; rintro e z2 ⟨rfl, h, hF⟩; have hK := Z1.out.2.step hF; have hP2 := hK.2.2; rw [HBM.out.2]; have Z2 := Lib.hid (And.intro h hK); clear h hF hK)
          | (go_at_call 26; refine (remove_tp (sep_drew (tp_frm _ _ _ _ _ _) HB.out.1) x1 (by have := Hk.out; omega)).mono ?_; rintro e z1 ⟨rfl, h, hF⟩; have hK := Kp.step (z := wo.drew) HB.out.2 hF; have hP1 := hK.2.2; rw [HBM.out.1]; have Z1 := Lib.hid (And.intro h hK); clear h hF hK))
        have Z3 := Lib.hid Z2.out
        clear hP0 hP1 hP2
        go_wp2
        go_ret
        exact ⟨by simp, _, _, _, tp_more Z3.out.1 (by omega) (by omega), HS.out.1.rem HS.out.2.2.1.1.in_ HS.out.2.2.1.2.2.1 x1, by have := len_rem s x1; have := HS.out.2.2.2.1; omega⟩
      · have h3b : (x0 == 3) = false := by simpa using h3
        clear h3
        by_cases h4 : x0 = 4
        · subst h4
          obtain ⟨bm, hbm⟩ : ∃ bm, decide (0 ≤ rowOf 2 t.L x1) = bm := ⟨_, rfl⟩
          have hbr : decide (0 ≤ rowOf 2 s.L x1) = bm := by rw [← hbm, HS.out.1.hL]
          have HBM := Lib.hid (And.intro hbm hbr)
          clear hbm hbr
          go_wp2_with fail
          go_region_held3 (fun w' => w'.cell? ⟨ob, 1, none⟩ = some (.int .i64 x1) ∧ w'.cell? ⟨ob, 2, none⟩ = some (.int .u64 x2)) (first | exact hP0 | exact hP1 | exact hP2) (first
            | (go_at_call 28; refine (revict_tp Z1.out.1 x1 HS.out.2.1).mono ?_; rintro e z2 ⟨rfl, h, hF⟩; have hK := Z1.out.2.step hF; have hP2 := hK.2.2; rw [HBM.out.2]; have Z2 := Lib.hid (And.intro h hK); clear h hF hK)
            | (go_at_call 19; refine (evict_tp (sep_drew (tp_frm _ _ _ _ _ _) HB.out.1) x1 (by have := Hk.out; omega) (by have := Hk.out; omega)).mono ?_; rintro e z1 ⟨rfl, h, hF⟩; have hK := Kp.step (z := wo.drew) HB.out.2 hF; have hP1 := hK.2.2; rw [HBM.out.1]; have Z1 := Lib.hid (And.intro h hK); clear h hF hK))
          have Z3 := Lib.hid Z2.out
          clear hP0 hP1 hP2
          go_wp2
          go_ret
          exact ⟨by simp, _, _, _, tp_more Z3.out.1 (by omega) (by omega), HS.out.1.ev HS.out.2.2.1.1.in_ HS.out.2.2.1.2.2.1 x1, by have := len_ev s x1; have := HS.out.2.2.2.1; omega⟩
        · have h4b : (x0 == 4) = false := by simpa using h4
          clear h4
          by_cases h5 : x0 = 5
          · subst h5
            go_wp2_with fail
            refine (cap_tp HB.out.1 x1 (by have := Hk.out; omega)).mono ?_
            rintro e z1 ⟨rfl, h, hF⟩
            have hK := HB.out.2.step hF
            have hP1 := hK.2.2.1
            have Z1 := Lib.hid (And.intro h hK)
            clear h hF hK
            go_wp2_with fail
            refine (rcap_tp Z1.out.1 x1 HS.out.2.1).mono ?_
            rintro e z2 ⟨rfl, h, hF⟩
            have Z2 := Lib.hid h
            clear h hF
            go_wp2
            go_ret
            exact ⟨rfl, _, _, _, tp_more Z2.out (by omega) (by omega), HS.out.1.cap x1, Nat.le_succ_of_le HS.out.2.2.2.1⟩
          · have h5b : (x0 == 5) = false := by simpa using h5
            clear h5
            have hmb := HS.out.2.2.2.2
            have hkb := Hk.out
            obtain ⟨v, hv⟩ : ∃ v, (vicT t).2 = v := ⟨_, rfl⟩
            have HV := Lib.hid hv
            clear hv
            by_cases h6 : x0 = 6
            · subst h6
              go_wp2_with fail
              refine (rvictim_tp HB.out.1 HS.out.1 HS.out.2.2.1.1 HS.out.2.2.1.2.2.1 (by have := HS.out.2.2.2.1; omega)).mono ?_
              rintro e z1 ⟨rfl, s1, h, hF, hs1, hl1⟩
              rw [HV.out]
              have Z1 := Lib.hid (And.intro h (And.intro hs1 hl1))
              clear h hF hs1 hl1
              go_wp2_with fail
              refine (victim_tp Z1.out.1 (by omega)).mono ?_
              rintro e z2 ⟨rfl, h, hF⟩
              rw [HV.out]
              have Z2 := Lib.hid h
              have hl2 := Z1.out.2.1.limT h (by omega) (by omega) (by rw [Z1.out.2.2]; have := HS.out.2.2.2.1; omega)
              have HL2 := Lib.hid (And.intro hl2 (tp_nums h))
              clear h hF hl2
              obtain ⟨bm, hbm⟩ : ∃ bm, decide (0 ≤ rowOf 2 (vicT t).1.L v) = bm := ⟨_, rfl⟩
              have hbr : decide (0 ≤ rowOf 2 s1.L v) = bm := by rw [← hbm, Z1.out.2.1.hL]
              have HBM := Lib.hid (And.intro hbm hbr)
              clear hbm hbr
              go_wp2_with fail
              refine (evict_tp Z2.out v (by omega) (by omega)).mono ?_
              rintro e z3 ⟨rfl, h, hF⟩
              rw [HBM.out.1]
              have Z3 := Lib.hid h
              clear h hF
              go_wp2_with fail
              refine (revict_tp Z3.out v HL2.out.1).mono ?_
              rintro e z4 ⟨rfl, h, hF⟩
              rw [HBM.out.2]
              have Z4 := Lib.hid h
              clear h hF
              go_wp2
              go_ret
              exact ⟨by simp, _, _, _, tp_more Z4.out (by omega) (by omega), Z1.out.2.1.ev HL2.out.2.1.in_ HL2.out.2.2.2.1 v, by have := len_ev s1 v; have := Z1.out.2.2; have := HS.out.2.2.2.1; omega⟩
            · have h6b : (x0 == 6) = false := by simpa using h6
              clear h6
              go_wp2_with fail
              refine (victim_tp HB.out.1 (by omega)).mono ?_
              rintro e z1 ⟨rfl, h, hF⟩
              rw [HV.out]
              have Z1 := Lib.hid h
              clear h hF
              go_wp2_with fail
              refine (rvictim_tp Z1.out HS.out.1 HS.out.2.2.1.1 HS.out.2.2.1.2.2.1 (by have := HS.out.2.2.2.1; omega)).mono ?_
              rintro e z2 ⟨rfl, s1, h, hF, hs1, hl1⟩
              rw [HV.out]
              have Z2 := Lib.hid (And.intro h (And.intro hs1 hl1))
              clear h hF hs1 hl1
              have Z3 := Lib.hid Z2.out
              clear hP0
              go_wp2
              go_ret
              exact ⟨by simp, _, _, _, tp_more Z3.out.1 (by omega) (by omega), Z3.out.2.1, by have := Z3.out.2.2; have := HS.out.2.2.2.1; omega⟩
end Go.Proofs.Ytlhiglhhnjljpaa
