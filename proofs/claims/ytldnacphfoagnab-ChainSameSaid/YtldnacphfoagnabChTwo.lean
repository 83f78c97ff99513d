/- Two tables side by side. -/
import Derived.Test.YtldnacphfoagnabChShown
namespace Go.Proofs.Ytldnacphfoagnab
open Go.RowKit
set_option linter.unusedVariables false
section
variable {w0 w w' : World} {S : Nat → Prop} {t u : Nat} {s s' : ChS}
theorem tt_frm (t u : Nat) (s s' : ChS) : Frm (Two (CT t s) (CT u s')) := two_frm (ct_frm t s) (ct_frm u s')
theorem tt_set1 (h : Sep (Two (CT t s) (CT u s')) w0 w S) (k : ByteArray) (n : Int) (hk : k.size ≤ 9223372036854775807) (hn : -1000000 ≤ s.n ∧ s.n < 1000000) :
    Calls Try.prog 10 #[.pointer (some ⟨t, 0, none⟩), .string k, .int .i64 n] w fun e w' => e = .returned (.tuple #[]) ∧ Sep (Two (CT t (setS s k n)) (CT u s')) w0 w' (grow S w w') ∧ Fr S w w' := two_left (ct_frm u s') h fun S1 hA => ct_set k n hk hA hn
theorem tt_set2 (h : Sep (Two (CT t s) (CT u s')) w0 w S) (k : ByteArray) (n : Int) (hk : k.size ≤ 9223372036854775807) (hn : -1000000 ≤ s'.n ∧ s'.n < 1000000) :
    Calls Try.prog 10 #[.pointer (some ⟨u, 0, none⟩), .string k, .int .i64 n] w fun e w' => e = .returned (.tuple #[]) ∧ Sep (Two (CT t s) (CT u (setS s' k n))) w0 w' (grow S w w') ∧ Fr S w w' := two_right (ct_frm t s) h fun S1 hA => ct_set k n hk hA hn
theorem tt_del1 (h : Sep (Two (CT t s) (CT u s')) w0 w S) (k : ByteArray) (hk : k.size ≤ 9223372036854775807) (hn : -1000000 ≤ s.n ∧ s.n < 1000000) :
    Calls Try.prog 15 #[.pointer (some ⟨t, 0, none⟩), .string k] w fun e w' => e = .returned (.bool (look s k).isSome) ∧ Sep (Two (CT t (delS s k)) (CT u s')) w0 w' (grow S w w') ∧ Fr S w w' := two_left (ct_frm u s') h fun S1 hA => ct_delete k hk hA hn
theorem tt_del2 (h : Sep (Two (CT t s) (CT u s')) w0 w S) (k : ByteArray) (hk : k.size ≤ 9223372036854775807) (hn : -1000000 ≤ s'.n ∧ s'.n < 1000000) :
    Calls Try.prog 15 #[.pointer (some ⟨u, 0, none⟩), .string k] w fun e w' => e = .returned (.bool (look s' k).isSome) ∧ Sep (Two (CT t s) (CT u (delS s' k))) w0 w' (grow S w w') ∧ Fr S w w' := two_right (ct_frm t s) h fun S1 hA => ct_delete k hk hA hn
theorem tt_step2 (h : Sep (Two (CT t s) (CT u s')) w0 w S) :
    Calls Try.prog 11 #[.pointer (some ⟨u, 0, none⟩)] w fun e w' => e = .returned (.bool (stepS s').g) ∧ Sep (Two (CT t s) (CT u (stepS s'))) w0 w' (grow S w w') ∧ Fr S w w' := two_right (ct_frm t s) h fun S1 hA => ct_step hA
theorem tt_one (h : Sep (Two (CT t s) (CT u s')) w0 w S) : ∃ S1, ChAt w S1 t s := by obtain ⟨S1, S2, _, _, _, hA, _⟩ := h.at_; exact ⟨S1, hA⟩
theorem tt_two (h : Sep (Two (CT t s) (CT u s')) w0 w S) : ∃ S1, ChAt w S1 u s' := by obtain ⟨S1, S2, _, _, _, _, hA⟩ := h.at_; exact ⟨S2, hA⟩
theorem tt_get1 (h : Sep (Two (CT t s) (CT u s')) w0 w S) (k : ByteArray) (hk : k.size ≤ 9223372036854775807) :
    Calls Try.prog 16 #[.pointer (some ⟨t, 0, none⟩), .string k] w fun e w' => e = .returned (.tuple #[.int .i64 ((look s k).getD 0), .bool (look s k).isSome]) ∧ ∃ q, w' = w.drewN q ∧ Sep (Two (CT t s) (CT u s')) w0 w' S := by
  obtain ⟨S1, hA⟩ := tt_one h
  exact (ch_get S1 t s k hk w hA).mono fun e w' ⟨he, q, hq⟩ => ⟨he, q, hq, hq ▸ sep_drewN (tt_frm t u s s') h q⟩
theorem tt_get2 (h : Sep (Two (CT t s) (CT u s')) w0 w S) (k : ByteArray) (hk : k.size ≤ 9223372036854775807) :
    Calls Try.prog 16 #[.pointer (some ⟨u, 0, none⟩), .string k] w fun e w' => e = .returned (.tuple #[.int .i64 ((look s' k).getD 0), .bool (look s' k).isSome]) ∧ ∃ q, w' = w.drewN q ∧ Sep (Two (CT t s) (CT u s')) w0 w' S := by
  obtain ⟨S1, hA⟩ := tt_two h
  exact (ch_get S1 u s' k hk w hA).mono fun e w' ⟨he, q, hq⟩ => ⟨he, q, hq, hq ▸ sep_drewN (tt_frm t u s s') h q⟩
theorem tt_len1 (h : Sep (Two (CT t s) (CT u s')) w0 w S) : Calls Try.prog 13 #[.pointer (some ⟨t, 0, none⟩)] w fun e w' => e = .returned (.int .i64 s.n) ∧ w = w' := by
  obtain ⟨S1, hA⟩ := tt_one h; exact ch_len hA
theorem tt_len2 (h : Sep (Two (CT t s) (CT u s')) w0 w S) : Calls Try.prog 13 #[.pointer (some ⟨u, 0, none⟩)] w fun e w' => e = .returned (.int .i64 s'.n) ∧ w = w' := by
  obtain ⟨S1, hA⟩ := tt_two h; exact ch_len hA
theorem tt_w (h : Sep (Two (CT t s) (CT u s')) w0 w S) : ChW s ∧ ChW s' := by
  obtain ⟨S1, S2, _, _, _, hA, hB⟩ := h.at_; exact ⟨hA.1, hB.1⟩
end
/-- Both tell the same. -/
structure Alk (k : Nat) (s s' : ChS) : Prop where
  l : ∀ key, look s key = look s' key
  n : s.n = s'.n
  lo : 0 - (k : Int) ≤ s.n
  hi : s.n ≤ k
theorem alk_start : Alk 0 ch0 ch0 := ⟨fun _ => rfl, rfl, by decide, by decide⟩
theorem Alk.more {k : Nat} {s s' : ChS} (h : Alk k s s') : Alk (k + 1) s s' := ⟨h.l, h.n, by have := h.lo; omega, by have := h.hi; omega⟩
theorem Alk.set {k : Nat} {s s' : ChS} (h : Alk k s s') (key : ByteArray) (n : Int) : Alk (k + 1) (setS s key n) (setS s' key n) := by
  have a := look_set (s := s) key
  have b := look_set (s := s') key
  refine ⟨fun q => by rw [(a q n).1, (b q n).1, h.l], by rw [(a key n).2, (b key n).2, h.l, h.n], ?_, ?_⟩
  · rw [(a key n).2]; have := h.lo; split <;> omega
  · rw [(a key n).2]; have := h.hi; split <;> omega
theorem Alk.del {k : Nat} {s s' : ChS} (h : Alk k s s') (hW : ChW s) (hW' : ChW s') (key : ByteArray) : Alk (k + 1) (delS s key) (delS s' key) := by
  have a := look_del hW key
  have b := look_del hW' key
  refine ⟨fun q => by rw [(a q).1, (b q).1, h.l], by rw [(a key).2, (b key).2, h.l, h.n], ?_, ?_⟩
  · rw [(a key).2]; have := h.lo; split <;> omega
  · rw [(a key).2]; have := h.hi; split <;> omega
theorem Alk.step {k : Nat} {s s' : ChS} (h : Alk k s s') (hW' : ChW s') : Alk k s (stepS s') :=
  ⟨fun q => by rw [(look_step hW' q).1, h.l], by rw [(look_step hW' ByteArray.empty).2, h.n], h.lo, h.hi⟩
theorem Alk.lim {k : Nat} {s s' : ChS} (h : Alk k s s') (hk : k ≤ 1000) : (-1000000 ≤ s.n ∧ s.n < 1000000) ∧ (-1000000 ≤ s'.n ∧ s'.n < 1000000) := by
  have := h.n; have := h.lo; have := h.hi; omega
end Go.Proofs.Ytldnacphfoagnab
