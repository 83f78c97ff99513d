/- Layer 9 (chain) and its reference side by side. -/
import Derived.Test.YtnabgcnndehaaaaCrG
import Derived.Test.YtnabgcnndehaaaaTwo
namespace Go.Proofs.Ytnabgcnndehaaaa
open Go.RowKit
set_option linter.unusedVariables false
def RT (u : Nat) (s : ChS) (w : World) (S : Nat → Prop) : Prop := CrAt w S u s
theorem rt_frm (u : Nat) (s : ChS) : Frm (RT u s) := fun w w' S hz hf h => CrAt.frame h hf
/-- The table and its reference. -/
def Bo (t u : Nat) (s s' : ChS) : World → (Nat → Prop) → Prop := Two (CT t s) (RT u s')
theorem bo_frm (t u : Nat) (s s' : ChS) : Frm (Bo t u s s') := two_frm (ct_frm t s) (rt_frm u s')
/-- Few keys, not too long. -/
structure Pl (k : Nat) (s : ChS) : Prop where
  l : (keysS s).length ≤ k
  z : ∀ key, (look s key).isSome = true → key.size ≤ 300
  lo : 0 - (k : Int) ≤ s.n
  hi : s.n ≤ k
theorem pl_start : Pl 0 ch0 := ⟨by decide, fun key h => (by rw [look_ch0] at h; cases h), by decide, by decide⟩
theorem Pl.more {k : Nat} {s : ChS} (h : Pl k s) : Pl (k + 1) s := ⟨by have := h.l; omega, h.z, by have := h.lo; omega, by have := h.hi; omega⟩
theorem Pl.set {k : Nat} {s : ChS} (h : Pl k s) (hW : ChW s) {x : ByteArray} (hx : x.size ≤ 300) (n : Int) (hW2 : ChW (setS s x n)) : Pl (k + 1) (setS s x n) := by
  have a := look_set (s := s) x
  refine ⟨by have := keys_len_set hW x n hW2; have := h.l; omega, fun key q => ?_, ?_, ?_⟩
  · rw [(a key n).1] at q
    by_cases e : key = x
    · rw [e]; exact hx
    · rw [if_neg e] at q; exact h.z key q
  · rw [(a x n).2]; have := h.lo; split <;> omega
  · rw [(a x n).2]; have := h.hi; split <;> omega
theorem Pl.del {k : Nat} {s : ChS} (h : Pl k s) (hW : ChW s) (x : ByteArray) (hW2 : ChW (delS s x)) : Pl (k + 1) (delS s x) := by
  have a := look_del hW x
  refine ⟨by have := keys_len_del hW x hW2; have := h.l; omega, fun key q => ?_, ?_, ?_⟩
  · rw [(a key).1] at q
    by_cases e : key = x
    · rw [if_pos e] at q; cases q
    · rw [if_neg e] at q; exact h.z key q
  · rw [(a x).2]; have := h.lo; split <;> omega
  · rw [(a x).2]; have := h.hi; split <;> omega
theorem Pl.step {k : Nat} {s : ChS} (h : Pl k s) (hW : ChW s) : Pl (k + 1) (stepS s) :=
  ⟨by have := keys_len_step hW; have := h.l; omega, fun key q => by rw [(look_step hW key).1] at q; exact h.z key q, by rw [(look_step hW ByteArray.empty).2]; have := h.lo; omega, by rw [(look_step hW ByteArray.empty).2]; have := h.hi; omega⟩
theorem Pl.home {k : Nat} {s : ChS} (h : Pl k s) (hW : ChW s) (x : ByteArray) : (home s x).length ≤ k := by
  have h1 : (ks (Go.Proofs.Ytnabgcnndehaaaa.home s x)).length ≤ (keysS s).length := sub_len (home_nodup hW x) (fun y q => by
    rw [keysS_mem hW]
    have e : Go.Proofs.Ytnabgcnndehaaaa.home s y = Go.Proofs.Ytnabgcnndehaaaa.home s x := by
      have := home_of hW q
      unfold Go.Proofs.Ytnabgcnndehaaaa.home
      rcases this with ⟨ho, e⟩ | ⟨ho, e, e2⟩
      · rw [if_pos ho, if_pos (show inOld s y from ⟨ho.1, by rw [e]; exact ho.2⟩), e]
      · rw [if_neg ho, if_neg (fun q2 : inOld s y => by have := e2 q2.1; have := q2.2; omega), e]
    show (getN (Go.Proofs.Ytnabgcnndehaaaa.home s y) y).isSome = true
    rw [e, getN_some]; exact q)
  have := h.l
  simp [ks] at h1
  omega
theorem Pl.rows {k : Nat} {s : ChS} (h : Pl k s) (hk : k ≤ 1000000) (hW : ChW s) (hg : s.g = true) : (∀ i, (s.O i).length ≤ 1000000 ∧ (s.R i).length ≤ 1000000) ∧ ∀ i x, x ∈ ks (s.O i) → x.size ≤ 9223372036854775807 := by
  have hO : ∀ i x, x ∈ ks (s.O i) → x ∈ keysS s := fun i x q => by
    unfold keysS
    rw [if_pos hg]
    refine List.mem_append_left _ (rowsK_mem.2 ⟨i, ?_, q⟩)
    rw [← hW.O2 hg i x q]; exact hx_lt _ _
  have hR : ∀ i x, x ∈ ks (s.R i) → x ∈ keysS s := fun i x q => by
    unfold keysS
    refine List.mem_append_right _ (rowsK_mem.2 ⟨i, ?_, q⟩)
    rw [← hW.R2 i x q]; exact hx_lt _ _
  refine ⟨fun i => ⟨?_, ?_⟩, fun i x q => ?_⟩
  · have := sub_len (hW.O1 hg i) (hO i); have := h.l; simp [ks] at *; omega
  · have := sub_len (hW.R1 i) (hR i); have := h.l; simp [ks] at *; omega
  · have := h.z x ((keysS_mem hW x).1 (hO i x q)); omega
section
variable {w0 w w' : World} {S : Nat → Prop} {t u : Nat} {s s' : ChS} {j : Nat}
theorem bo_one (h : Sep (Bo t u s s') w0 w S) : ∃ S1, ChAt w S1 t s := by obtain ⟨S1, S2, _, _, _, hA, _⟩ := h.at_; exact ⟨S1, hA⟩
theorem bo_two (h : Sep (Bo t u s s') w0 w S) : ∃ S2, CrAt w S2 u s' ∧ (∀ b, S2 b → S b) := by obtain ⟨S1, S2, _, h2, _, _, hA⟩ := h.at_; exact ⟨S2, hA, h2⟩
theorem bo_w (h : Sep (Bo t u s s') w0 w S) : ChW s ∧ ChW s' := by
  obtain ⟨S1, S2, _, _, _, hA, hB⟩ := h.at_; exact ⟨hA.1, hB.1⟩
theorem bo_new (hF : Fr (From w0.heap.size) w0 w) {w1 w2 : World} (hA : ChAt w1 (fun b => w.heap.size ≤ b ∧ b < w1.heap.size) t ch0) (h1 : Fr (fun _ => False) w w1) (hB : CrAt w2 (fun b => w1.heap.size ≤ b ∧ b < w2.heap.size) u ch0) (h2 : Fr (fun _ => False) w1 w2) : ∃ S, Sep (Bo t u ch0 ch0) w0 w2 S := by
  have := two_new (w := w) (A := CT t ch0) (B := RT u ch0) (ct_frm t ch0) (hF.trans h1 (fun _ _ q => q.elim)) hA hF.size h1.size hB h2
  exact ⟨_, this⟩
theorem bo_set1 (h : Sep (Bo t u s s') w0 w S) (k : ByteArray) (n : Int) (hk : k.size ≤ 300) (hP : Pl j s) (hj : j ≤ 1000) :
    Calls Try.prog 10 #[.pointer (some ⟨t, 0, none⟩), .string k, .int .i64 n] w fun e w' => e = .returned (.tuple #[]) ∧ Sep (Bo t u (setS s k n) s') w0 w' (grow S w w') ∧ Fr S w w' :=
  two_left (rt_frm u s') h fun S1 hA => ct_set k n (by omega) hA (by have := hP.lo; have := hP.hi; omega)
theorem bo_set2 (h : Sep (Bo t u s s') w0 w S) (k : ByteArray) (n : Int) (hk : k.size ≤ 300) (hP : Pl j s') (hj : j ≤ 1000) :
    Calls Try.prog 29 #[.pointer (some ⟨u, 0, none⟩), .string k, .int .i64 n] w fun e w' => e = .returned (.tuple #[]) ∧ Sep (Bo t u s (setS s' k n)) w0 w' (grow S w w') ∧ Fr S w w' :=
  two_right (ct_frm t s) h fun S1 hA => cr_set S1 u s' k n (by omega) w hA (by have := hP.lo; have := hP.hi; omega) (by have := hP.home hA.1 k; omega)
theorem bo_del1 (h : Sep (Bo t u s s') w0 w S) (k : ByteArray) (hk : k.size ≤ 300) (hP : Pl j s) (hj : j ≤ 1000) :
    Calls Try.prog 15 #[.pointer (some ⟨t, 0, none⟩), .string k] w fun e w' => e = .returned (.bool (look s k).isSome) ∧ Sep (Bo t u (delS s k) s') w0 w' (grow S w w') ∧ Fr S w w' :=
  two_left (rt_frm u s') h fun S1 hA => ct_delete k (by omega) hA (by have := hP.lo; have := hP.hi; omega)
theorem bo_del2 (h : Sep (Bo t u s s') w0 w S) (k : ByteArray) (hk : k.size ≤ 300) (hP : Pl j s') (hj : j ≤ 1000) :
    Calls Try.prog 31 #[.pointer (some ⟨u, 0, none⟩), .string k] w fun e w' => e = .returned (.bool (look s' k).isSome) ∧ Sep (Bo t u s (delS s' k)) w0 w' (grow S w w') ∧ Fr S w w' :=
  two_right (ct_frm t s) h fun S1 hA => cr_delete S1 u s' k (by omega) w hA (by have := hP.lo; have := hP.hi; omega) (by have := hP.home hA.1 k; omega)
theorem bo_step1 (h : Sep (Bo t u s s') w0 w S) :
    Calls Try.prog 11 #[.pointer (some ⟨t, 0, none⟩)] w fun e w' => e = .returned (.bool (stepS s).g) ∧ Sep (Bo t u (stepS s) s') w0 w' (grow S w w') ∧ Fr S w w' := two_left (rt_frm u s') h fun S1 hA => ct_step hA
theorem bo_step2 (h : Sep (Bo t u s s') w0 w S) (hP : Pl j s') (hj : j ≤ 1000) :
    Calls Try.prog 32 #[.pointer (some ⟨u, 0, none⟩)] w fun e w' => e = .returned (.bool (stepS s').g) ∧ Sep (Bo t u s (stepS s')) w0 w' (grow S w w') ∧ Fr S w w' :=
  two_right (ct_frm t s) h fun S1 hA => cr_step S1 u s' w hA (fun hg => (hP.rows (by omega) hA.1 hg).1) (fun hg => (hP.rows (by omega) hA.1 hg).2)
theorem bo_get1 (h : Sep (Bo t u s s') w0 w S) (k : ByteArray) (hk : k.size ≤ 300) :
    Calls Try.prog 16 #[.pointer (some ⟨t, 0, none⟩), .string k] w fun e w' => e = .returned (.tuple #[.int .i64 ((look s k).getD 0), .bool (look s k).isSome]) ∧ ∃ q, w' = w.drewN q ∧ Sep (Bo t u s s') w0 w' S := by
  obtain ⟨S1, hA⟩ := bo_one h
  exact (ch_get S1 t s k (by omega) w hA).mono fun e w' ⟨he, q, hq⟩ => ⟨he, q, hq, hq ▸ sep_drewN (bo_frm t u s s') h q⟩
theorem bo_get2 (h : Sep (Bo t u s s') w0 w S) (k : ByteArray) (hk : k.size ≤ 300) (hP : Pl j s') (hj : j ≤ 1000) :
    Calls Try.prog 30 #[.pointer (some ⟨u, 0, none⟩), .string k] w fun e w' => e = .returned (.tuple #[.int .i64 ((look s' k).getD 0), .bool (look s' k).isSome]) ∧ ∃ q, w' = w.drewN q ∧ Sep (Bo t u s s') w0 w' S := by
  obtain ⟨S2, hA, _⟩ := bo_two h
  exact (cr_get hA k (by omega) (by have := hP.home hA.1 k; omega)).mono fun e w' ⟨he, q, hq⟩ => ⟨he, q, hq, hq ▸ sep_drewN (bo_frm t u s s') h q⟩
theorem bo_len (h : Sep (Bo t u s s') w0 w S) : Calls Try.prog 13 #[.pointer (some ⟨t, 0, none⟩)] w fun e w' => e = .returned (.int .i64 s.n) ∧ w = w' := by
  obtain ⟨S1, hA⟩ := bo_one h; exact ch_len hA
theorem bo_power (h : Sep (Bo t u s s') w0 w S) : Calls Try.prog 12 #[.pointer (some ⟨t, 0, none⟩)] w fun e w' => e = .returned (.int .i64 s.pw) ∧ w = w' := by
  obtain ⟨S1, hA⟩ := bo_one h; exact ch_power hA
theorem bo_moved1 (h : Sep (Bo t u s s') w0 w S) : Calls Try.prog 14 #[.pointer (some ⟨t, 0, none⟩)] w fun e w' => e = .returned (.int .i64 (movedS s)) ∧ w = w' := by
  obtain ⟨S1, hA⟩ := bo_one h; exact ch_moved hA
theorem bo_moved2 (h : Sep (Bo t u s s') w0 w S) : Calls Try.prog 23 #[.pointer (some ⟨u, 0, none⟩)] w fun e w' => e = .returned (.int .i64 (movedS s')) ∧ w = w' := by
  obtain ⟨S2, hA, _⟩ := bo_two h; exact cr_moved hA
theorem bo_cells (h : Sep (Bo t u s s') w0 w S) : w.cell? ⟨u, 0, none⟩ = some (.int .i64 s'.pw) ∧ w.cell? ⟨u, 5, none⟩ = some (.int .i64 s'.n) := by
  obtain ⟨S2, ⟨_, nb, ob, xs, ys, dv, o, hA⟩, _⟩ := bo_two h
  obtain ⟨c0, _, _, _, _, c5, _, _⟩ := hA.cells
  exact ⟨c0, c5⟩
theorem bo_bucket1 (h : Sep (Bo t u s s') w0 w S) (i : Int) (hP : Pl j s) (hj : j ≤ 1000) :
    Calls Try.prog 18 #[.pointer (some ⟨t, 0, none⟩), .int .i64 i] w fun e w' => ∃ v, e = .returned v ∧ Sep (Bo t u s s') w0 w' S ∧ Held w0 w' S 9 1 v (bucketS s i).length (strs (bucketS s i)) ∧ Fr (fun b => w.heap.size ≤ b) w w' := by
  obtain ⟨S1, hA⟩ := bo_one h
  exact (ch_bucketK S1 t s i w hA (by have := bucket_len hA.1 i; have := hP.l; omega)).mono fun e w' ⟨v, he, hv, hB⟩ => ⟨v, he, sep_fr (bo_frm t u s s') h (Fr.of_below hB), Held.new h hv, Fr.of_below hB⟩
theorem bo_bucket2 (h : Sep (Bo t u s s') w0 w S) (i : Int) (hP : Pl j s') (hj : j ≤ 1000) :
    Calls Try.prog 33 #[.pointer (some ⟨u, 0, none⟩), .int .i64 i] w fun e w' => ∃ v, e = .returned v ∧ Sep (Bo t u s s') w0 w' S ∧ Held w0 w' S 9 1 v (bucketS s' i).length (strs (bucketS s' i)) ∧ Fr (fun b => w.heap.size ≤ b) w w' := by
  obtain ⟨S2, hA, _⟩ := bo_two h
  exact (cr_bucket hA i (by have := bucket_len hA.1 i; have := hP.l; omega)).mono fun e w' ⟨v, he, hv, hB⟩ => ⟨v, he, sep_fr (bo_frm t u s s') h hB, Held.new h hv, hB⟩
theorem bo_keys1 (h : Sep (Bo t u s s') w0 w S) (hP : Pl j s) (hj : j ≤ 1000) :
    Calls Try.prog 17 #[.pointer (some ⟨t, 0, none⟩)] w fun e w' => ∃ v, e = .returned v ∧ Sep (Bo t u s s') w0 w' S ∧ Held w0 w' S 9 1 v (keysS s).length (strs (keysS s)) ∧ Fr (fun b => w.heap.size ≤ b) w w' := by
  obtain ⟨S1, hA⟩ := bo_one h
  exact (ch_keys S1 t s w hA (by have := hP.l; omega)).mono fun e w' ⟨v, he, hv, hB⟩ => ⟨v, he, sep_fr (bo_frm t u s s') h (Fr.of_below hB), Held.new h hv, Fr.of_below hB⟩
theorem bo_keys2 (h : Sep (Bo t u s s') w0 w S) (hP : Pl j s') (hj : j ≤ 1000) :
    Calls Try.prog 25 #[.pointer (some ⟨u, 0, none⟩)] w fun e w' => ∃ v, e = .returned v ∧ Sep (Bo t u s s') w0 w' S ∧ Held w0 w' S 9 1 v (keysS s').length (strs (keysS s')) ∧ Fr (fun b => w.heap.size ≤ b) w w' := by
  obtain ⟨S2, hA, _⟩ := bo_two h
  exact (cr_keys hA (by have := hP.l; omega)).mono fun e w' ⟨v, he, hv, hB⟩ => ⟨v, he, sep_fr (bo_frm t u s s') h hB, Held.new h hv, hB⟩
end
end Go.Proofs.Ytnabgcnndehaaaa
