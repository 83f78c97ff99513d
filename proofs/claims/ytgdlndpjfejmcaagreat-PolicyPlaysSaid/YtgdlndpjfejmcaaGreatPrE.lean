/- Layer 15 (policy) and its reference, side by side. -/
import Derived.Test.YtgdlndpjfejmcaaGreatPrB
import Derived.Test.YtgdlndpjfejmcaaGreatPrD
import Derived.Test.YtgdlndpjfejmcaaGreatTwo
namespace Go.Proofs.YtgdlndpjfejmcaaGreat
open Go.RowKit
set_option linter.unusedVariables false
def QR (q : Nat) (r : RK) (w : World) (S : Nat → Prop) : Prop := RAt w S q r
theorem pks_frm (p : Nat) (k : PK) (N M : Nat) : Frm (PKs p k N M) := fun w w' S hz hf h => PolAt.frame h hz hf
theorem qr_frm (q : Nat) (r : RK) : Frm (QR q r) := fun w w' S hz hf h => RAt.frame h hz hf
def PP (p q : Nat) (k : PK) (r : RK) (N M : Nat) : World → (Nat → Prop) → Prop := Two (PKs p k N M) (QR q r)
theorem pp_frm (p q : Nat) (k : PK) (r : RK) (N M : Nat) : Frm (PP p q k r N M) := two_frm (pks_frm p k N M) (qr_frm q r)
section
variable {w0 w w' : World} {S : Nat → Prop} {p q : Nat} {k k' : PK} {r r' : RK} {N N' M M' j : Nat}
theorem pp_pol (h : Sep (PP p q k r N M) w0 w S) : ∃ S1, PolAt w S1 p k N M := by obtain ⟨S1, S2, h1, h2, h3, hA, hR⟩ := h.at_; exact ⟨S1, hA⟩
theorem pp_ref (h : Sep (PP p q k r N M) w0 w S) : ∃ S2, RAt w S2 q r := by obtain ⟨S1, S2, h1, h2, h3, hA, hR⟩ := h.at_; exact ⟨S2, hR⟩
theorem pp_more (h : Sep (PP p q k r N M) w0 w S) (hN : N ≤ N') (hM : M ≤ M') : Sep (PP p q k r N' M') w0 w S := h.as (fun hA => by obtain ⟨S1, S2, h1, h2, h3, hA, hR⟩ := hA; exact ⟨S1, S2, h1, h2, h3, PolAt.more hA hN hM, hR⟩)
theorem pp_num (h : Sep (PP p q k r N M) w0 w S) : PNum N M k ∧ k.Ok := by obtain ⟨S1, h⟩ := pp_pol h; exact ⟨pk_num h, pol_ok h⟩
theorem pp_drewN (h : Sep (PP p q k r N M) w0 w S) (n : Nat) : Sep (PP p q k r N M) w0 (w.drewN n) S := sep_drewN (pp_frm _ _ _ _ _ _) h n
theorem pp_drew (h : Sep (PP p q k r N M) w0 w S) : Sep (PP p q k r N M) w0 w.drew S := sep_drew (pp_frm _ _ _ _ _ _) h
theorem insert_pp (h : Sep (PP p q k r N M) w0 w S) (id hh : Int) (hN : N < 1000000) (hM : M ≤ 1000000) (hk : k.fit) :
    Calls Tryz.prog 7 #[.pointer (some ⟨p, 0, none⟩), .int .i64 id, .int .u64 hh] w fun e w' => e = .returned (.bool (k.insB id)) ∧ Sep (PP p q (k.ins id hh) r (N + 1) M) w0 w' (grow S w w') ∧ Fr S w w' :=
  two_left (qr_frm q r) h fun S1 hA => pk_insert hA id hh hN hM hk
theorem rinsert_pp (h : Sep (PP p q k r N M) w0 w S) (id hh : Int) (hL : RLim r) :
    Calls Tryz.prog 8 #[.pointer (some ⟨q, 0, none⟩), .int .i64 id, .int .u64 hh] w fun e w' => e = .returned (.bool (r.insB id)) ∧ Sep (PP p q k (r.ins id hh) N M) w0 w' (grow S w w') ∧ Fr S w w' :=
  two_right (pks_frm p k N M) h fun S2 hA => rk_insert hA id hh hL
theorem touch_pp (h : Sep (PP p q k r N M) w0 w S) (id : Int) (hN : N < 1000000) :
    Calls Tryz.prog 9 #[.pointer (some ⟨p, 0, none⟩), .int .i64 id] w fun e w' => e = .returned (.bool (k.touB id)) ∧ Sep (PP p q (k.tou id) r (N + 1) M) w0 w' (grow S w w') ∧ Fr S w w' :=
  two_left (qr_frm q r) h fun S1 hA => pk_touch hA id hN
theorem rtouch_pp (h : Sep (PP p q k r N M) w0 w S) (id : Int) (hL : RLim r) :
    Calls Tryz.prog 10 #[.pointer (some ⟨q, 0, none⟩), .int .i64 id] w fun e w' => e = .returned (.bool (r.touB id)) ∧ Sep (PP p q k (r.tou id) N M) w0 w' (grow S w w') ∧ Fr S w w' :=
  two_right (pks_frm p k N M) h fun S2 hA => rk_touch hA id hL
theorem remove_pp (h : Sep (PP p q k r N M) w0 w S) (id : Int) (hN : N ≤ 1000000) :
    Calls Tryz.prog 11 #[.pointer (some ⟨p, 0, none⟩), .int .i64 id] w fun e w' => e = .returned (.bool (k.hasB id)) ∧ Sep (PP p q (k.rem id) r N M) w0 w' (grow S w w') ∧ Fr S w w' :=
  two_left (qr_frm q r) h fun S1 hA => pk_remove hA id hN
theorem rremove_pp (h : Sep (PP p q k r N M) w0 w S) (id : Int) (hL : RLim r) :
    Calls Tryz.prog 12 #[.pointer (some ⟨q, 0, none⟩), .int .i64 id] w fun e w' => e = .returned (.bool (r.hasB id)) ∧ Sep (PP p q k (r.rem id) N M) w0 w' (grow S w w') ∧ Fr S w w' :=
  two_right (pks_frm p k N M) h fun S2 hA => rk_remove hA id hL
theorem evict_pp (h : Sep (PP p q k r N M) w0 w S) (id : Int) (hN : N ≤ 1000000) (hM : M < 1000000) :
    Calls Tryz.prog 13 #[.pointer (some ⟨p, 0, none⟩), .int .i64 id] w fun e w' => e = .returned (.bool (k.hasB id)) ∧ Sep (PP p q (k.evi id) r N (M + 1)) w0 w' (grow S w w') ∧ Fr S w w' :=
  two_left (qr_frm q r) h fun S1 hA => pk_evict hA id hN hM
theorem revict_pp (h : Sep (PP p q k r N M) w0 w S) (id : Int) (hL : RLim r) :
    Calls Tryz.prog 14 #[.pointer (some ⟨q, 0, none⟩), .int .i64 id] w fun e w' => e = .returned (.bool (r.hasB id)) ∧ Sep (PP p q k (r.evi id) N M) w0 w' (grow S w w') ∧ Fr S w w' :=
  two_right (pks_frm p k N M) h fun S2 hA => rk_evict hA id hL
theorem cap_pp (h : Sep (PP p q k r N M) w0 w S) (n : Int) (hM : M ≤ 1000000) :
    Calls Tryz.prog 15 #[.pointer (some ⟨p, 0, none⟩), .int .i64 n] w fun e w' => e = .returned (.tuple #[]) ∧ Sep (PP p q (k.cap n) r N M) w0 w' (grow S w w') ∧ Fr S w w' :=
  two_left (qr_frm q r) h fun S1 hA => pk_cap hA n hM
theorem rcap_pp (h : Sep (PP p q k r N M) w0 w S) (n : Int) (hL : RLim r) :
    Calls Tryz.prog 16 #[.pointer (some ⟨q, 0, none⟩), .int .i64 n] w fun e w' => e = .returned (.tuple #[]) ∧ Sep (PP p q k (r.cap n) N M) w0 w' (grow S w w') ∧ Fr S w w' :=
  two_right (pks_frm p k N M) h fun S2 hA => rk_cap hA n hL
theorem victim_pp (h : Sep (PP p q k r N M) w0 w S) (hh : Int) (hN : N + k.cost < 1000000) :
    Calls Tryz.prog 18 #[.pointer (some ⟨p, 0, none⟩), .int .u64 hh] w fun e w' => e = .returned (.int .i64 (k.vicI hh)) ∧ Sep (PP p q k.vicS r (N + k.cost) M) w0 w' (grow S w w') ∧ Fr S w w' :=
  two_left (qr_frm q r) h fun S1 hA => pk_victim hA hh hN
/-- The reference's Victim tells what the kind k, alike to it, would; whatever kind stands beside it. -/
theorem rvictim_pp {k0 : PK} {N0 M0 : Nat} (h : Sep (PP p q k0 r N M) w0 w S) (hh : Int) (hS : SynK j k r) (hn : PNum N0 M0 k) (hL : RLim r) (hj : j ≤ 1000) (hN : N0 + 5 ≤ 1000000) (hM : M0 ≤ 1000) :
    Calls Tryz.prog 17 #[.pointer (some ⟨q, 0, none⟩), .int .u64 hh] w fun e w' => e = .returned (.int .i64 (k.vicI hh)) ∧ ∃ r', Sep (PP p q k0 r' N M) w0 w' (grow S w w') ∧ Fr S w w' ∧ SynK j k.vicS r' := by
  have := two_right (B' := fun w S => ∃ r', RAt w S q r' ∧ SynK j k.vicS r') (pks_frm p k0 N M) h fun S2 hA => (rk_victim hA hh hS hn hL hj hN hM).mono fun e w' ⟨he, r', h1, h2, h3⟩ => ⟨he, ⟨r', h1, h2⟩, h3⟩
  refine this.mono fun e w' ⟨he, hA, hF⟩ => ⟨he, ?_⟩
  obtain ⟨S1, S2, h1, h2, h3, ha, r', hR, hs⟩ := hA.at_
  exact ⟨r', ⟨⟨S1, S2, h1, h2, h3, ha, hR⟩, hA.fr, hA.lo, hA.hi⟩, hF, hs⟩
theorem has_pp (h : Sep (PP p q k r N M) w0 w S) (id : Int) :
    Calls Tryz.prog 21 #[.pointer (some ⟨p, 0, none⟩), .int .i64 id] w fun e w' => e = .returned (.bool (k.hasB id)) ∧ ∃ n, w' = w.drewN n ∧ Sep (PP p q k r N M) w0 w' S := by
  obtain ⟨S1, hA⟩ := pp_pol h
  exact (pk_has hA id).mono fun e w' ⟨he, n, hn⟩ => ⟨he, n, hn, hn ▸ pp_drewN h n⟩
theorem rhas_pp (h : Sep (PP p q k r N M) w0 w S) (id : Int) (hL : RLim r) :
    Calls Tryz.prog 22 #[.pointer (some ⟨q, 0, none⟩), .int .i64 id] w fun e w' => e = .returned (.bool (r.hasB id)) ∧ w = w' := by
  obtain ⟨S2, hA⟩ := pp_ref h
  exact rk_has hA id hL
theorem len_pp (h : Sep (PP p q k r N M) w0 w S) (hN : N ≤ 1000000) :
    Calls Tryz.prog 19 #[.pointer (some ⟨p, 0, none⟩)] w fun e w' => e = .returned (.int .i64 k.len) ∧ ∃ n, w' = w.drewN n ∧ Sep (PP p q k r N M) w0 w' S := by
  obtain ⟨S1, hA⟩ := pp_pol h
  exact (pk_len hA hN).mono fun e w' ⟨he, n, hn⟩ => ⟨he, n, hn, hn ▸ pp_drewN h n⟩
theorem rlen_pp (h : Sep (PP p q k r N M) w0 w S) (hL : RLim r) :
    Calls Tryz.prog 20 #[.pointer (some ⟨q, 0, none⟩)] w fun e w' => e = .returned (.int .i64 r.len) ∧ ∃ n, w' = w.drewN n ∧ Sep (PP p q k r N M) w0 w' S := by
  obtain ⟨S2, hA⟩ := pp_ref h
  exact (rk_len hA hL).mono fun e w' ⟨he, n, hn⟩ => ⟨he, n, hn, hn ▸ pp_drewN h n⟩
/-- The step's own cells stay. -/
def Kp (ob : Nat) (x1 x2 : Int) (z : World) (S : Nat → Prop) : Prop := ob < z.heap.size ∧ ¬ S ob ∧ z.cell? ⟨ob, 1, none⟩ = some (.int .i64 x1) ∧ z.cell? ⟨ob, 2, none⟩ = some (.int .u64 x2)
theorem Kp.step {ob : Nat} {x1 x2 : Int} {z z' : World} {S : Nat → Prop} (h : Kp ob x1 x2 z S) (hF : Fr S z z') : Kp ob x1 x2 z' (grow S z z') :=
  ⟨Nat.lt_of_lt_of_le h.1 hF.size, fun q => q.elim h.2.1 (fun q => by have := h.1; have := q.1; omega), (hF.cell (p := ⟨ob, 1, none⟩) h.1 h.2.1).trans h.2.2.1, (hF.cell (p := ⟨ob, 2, none⟩) h.1 h.2.1).trans h.2.2.2⟩
theorem Kp.drewN {ob : Nat} {x1 x2 : Int} {z : World} {S : Nat → Prop} (h : Kp ob x1 x2 z S) (n : Nat) : Kp ob x1 x2 (z.drewN n) S := h
theorem synk_vic (h : SynK j k r) : SynK (j + 1) k r := h.more
end
end Go.Proofs.YtgdlndpjfejmcaaGreat
