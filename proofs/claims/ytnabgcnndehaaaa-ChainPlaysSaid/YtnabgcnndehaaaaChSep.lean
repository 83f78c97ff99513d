/- Layer 9 (chain) in blocks of its own: what each call does, to be taken one by one. -/
import Derived.Test.YtnabgcnndehaaaaCh4
import Derived.Test.YtnabgcnndehaaaaChLaw
import Derived.Test.YtnabgcnndehaaaaTwo
namespace Go.Proofs.Ytnabgcnndehaaaa
open Go.RowKit
set_option linter.unusedVariables false
def CT (t : Nat) (s : ChS) (w : World) (S : Nat → Prop) : Prop := ChAt w S t s
theorem ct_frm (t : Nat) (s : ChS) : Frm (CT t s) := fun w w' S hz hf h => ChAt.frame h hf
section
variable {w0 w w' : World} {S : Nat → Prop} {t : Nat} {s : ChS}
theorem ct_w (h : Sep (CT t s) w0 w S) : ChW s := h.at_.1
theorem ct_set (k : ByteArray) (n : Int) (hk : k.size ≤ 9223372036854775807) (h : CT t s w S) (hn : -1000000 ≤ s.n ∧ s.n < 1000000) :
    Calls Try.prog 10 #[.pointer (some ⟨t, 0, none⟩), .string k, .int .i64 n] w fun e w' => e = .returned (.tuple #[]) ∧ CT t (setS s k n) w' (grow S w w') ∧ Fr S w w' := ch_set S t s k n hk w h hn
theorem ct_delete (k : ByteArray) (hk : k.size ≤ 9223372036854775807) (h : CT t s w S) (hn : -1000000 ≤ s.n ∧ s.n < 1000000) :
    Calls Try.prog 15 #[.pointer (some ⟨t, 0, none⟩), .string k] w fun e w' => e = .returned (.bool (look s k).isSome) ∧ CT t (delS s k) w' (grow S w w') ∧ Fr S w w' :=
  (ch_delete S t s k hk w h ⟨hn.1, by omega⟩).mono fun e w' ⟨he, hA, hF⟩ => ⟨he, ChAt.mono hA fun b _ q => Or.inl q, hF⟩
theorem ct_step (h : CT t s w S) :
    Calls Try.prog 11 #[.pointer (some ⟨t, 0, none⟩)] w fun e w' => e = .returned (.bool (stepS s).g) ∧ CT t (stepS s) w' (grow S w w') ∧ Fr S w w' :=
  (ch_step S t s w h).mono fun e w' ⟨he, hA, hF⟩ => ⟨he, ChAt.mono hA fun b _ q => Or.inl q, hF⟩
theorem set_ct (h : Sep (CT t s) w0 w S) (k : ByteArray) (n : Int) (hk : k.size ≤ 9223372036854775807) (hn : -1000000 ≤ s.n ∧ s.n < 1000000) :
    Calls Try.prog 10 #[.pointer (some ⟨t, 0, none⟩), .string k, .int .i64 n] w fun e w' => e = .returned (.tuple #[]) ∧ Sep (CT t (setS s k n)) w0 w' (grow S w w') ∧ Fr S w w' :=
  (ct_set k n hk h.at_ hn).mono fun e w' ⟨he, hA, hF⟩ => ⟨he, h.next hA hF, hF⟩
theorem delete_ct (h : Sep (CT t s) w0 w S) (k : ByteArray) (hk : k.size ≤ 9223372036854775807) (hn : -1000000 ≤ s.n ∧ s.n < 1000000) :
    Calls Try.prog 15 #[.pointer (some ⟨t, 0, none⟩), .string k] w fun e w' => e = .returned (.bool (look s k).isSome) ∧ Sep (CT t (delS s k)) w0 w' (grow S w w') ∧ Fr S w w' :=
  (ct_delete k hk h.at_ hn).mono fun e w' ⟨he, hA, hF⟩ => ⟨he, h.next hA hF, hF⟩
theorem step_ct (h : Sep (CT t s) w0 w S) :
    Calls Try.prog 11 #[.pointer (some ⟨t, 0, none⟩)] w fun e w' => e = .returned (.bool (stepS s).g) ∧ Sep (CT t (stepS s)) w0 w' (grow S w w') ∧ Fr S w w' :=
  (ct_step h.at_).mono fun e w' ⟨he, hA, hF⟩ => ⟨he, h.next hA hF, hF⟩
theorem get_ct (h : Sep (CT t s) w0 w S) (k : ByteArray) (hk : k.size ≤ 9223372036854775807) :
    Calls Try.prog 16 #[.pointer (some ⟨t, 0, none⟩), .string k] w fun e w' => e = .returned (.tuple #[.int .i64 ((look s k).getD 0), .bool (look s k).isSome]) ∧ ∃ q, w' = w.drewN q ∧ Sep (CT t s) w0 w' S :=
  (ch_get S t s k hk w h.at_).mono fun e w' ⟨he, q, hq⟩ => ⟨he, q, hq, hq ▸ sep_drewN (ct_frm t s) h q⟩
theorem len_ct (h : Sep (CT t s) w0 w S) : Calls Try.prog 13 #[.pointer (some ⟨t, 0, none⟩)] w fun e w' => e = .returned (.int .i64 s.n) ∧ w = w' := ch_len h.at_
theorem power_ct (h : Sep (CT t s) w0 w S) : Calls Try.prog 12 #[.pointer (some ⟨t, 0, none⟩)] w fun e w' => e = .returned (.int .i64 s.pw) ∧ w = w' := ch_power h.at_
theorem moved_ct (h : Sep (CT t s) w0 w S) : Calls Try.prog 14 #[.pointer (some ⟨t, 0, none⟩)] w fun e w' => e = .returned (.int .i64 (movedS s)) ∧ w = w' := ch_moved h.at_
theorem new_ct (hF : Fr (From w0.heap.size) w0 w) :
    Calls Try.prog 9 #[] w fun e w' => ∃ t S, e = .returned (.pointer (some ⟨t, 0, none⟩)) ∧ Sep (CT t ch0) w0 w' S ∧ (∀ b, S b → w.heap.size ≤ b) ∧ Fr (fun _ => False) w w' :=
  (ch_new w).mono fun e w' ⟨p, he, hA, hG⟩ => ⟨p, _, he, Sep.new hF hA (fun b q => q) hG, fun b q => q.1, hG⟩
end
end Go.Proofs.Ytnabgcnndehaaaa
