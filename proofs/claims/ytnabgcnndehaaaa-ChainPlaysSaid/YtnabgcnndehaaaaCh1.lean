/- Layer 9 (chain): what each call does, one: bucket, find, Get. -/
import Derived.Test.YtnabgcnndehaaaaChPut
import Derived.Deep.QuietTactic
import Derived.BigQuiet
import Derived.Deep.LoopGhost
namespace Go.Proofs.Ytnabgcnndehaaaa
open Go.RowKit
set_option linter.unusedVariables false
theorem bytes_ne {a b : ByteArray} (h : a ≠ b) : (a.toList == b.toList) = false := by
  rw [ByteArray.toList_eq, ByteArray.toList_eq, beq_eq_false_iff_ne]
  intro e
  have e2 : a.data = b.data := Array.toList_inj.1 e
  cases a; cases b; simp only at e2; exact h (by rw [e2])
theorem bucket_q (h p v : Int) (w : World) (h0 : 0 ≤ h) (h1 : h < 18446744073709551616) (hv : bkt h p = v) (n : Nat) : Calls Try.prog 19 #[.int .u64 h, .int .i64 p] (w.drewN n) fun e w' => e = .returned (.int .i64 v) ∧ w' = w.drewN n := by
  subst hv
  exact (bucket_any h p _ h0 h1).mono fun e w' ⟨he, hw⟩ => ⟨he, hw.symm⟩
theorem two_pw {p : Nat} (h2 : 2 ≤ p) (h20 : p ≤ 20) : 4 ≤ 2 ^ p ∧ 2 ^ p ≤ 1048576 ∧ 2 ^ p = 2 * 2 ^ (p - 1) ∧ 2 ≤ 2 ^ (p - 1) := by
  have a := Nat.pow_le_pow_right (n := 2) (by omega) h2
  have b := Nat.pow_le_pow_right (n := 2) (by omega) h20
  have c := Nat.pow_le_pow_right (n := 2) (by omega) (show 1 ≤ p - 1 by omega)
  have e : 2 ^ p = 2 * 2 ^ (p - 1) := by
    rw [← Nat.pow_succ', show (p - 1).succ = p from by omega]
  omega
set_option maxHeartbeats 1000000 in
theorem ch_bucket (S : Nat → Prop) (t rb ob : Nat) (s : ChS) (xs ys : List Value) (mvv : Int) (k : ByteArray) (w : World) (hW : ChW s) (h : ChO w S t s rb ob xs ys mvv) :
    Calls Try.prog 27 #[.pointer (some ⟨t, 0, none⟩), .int .u64 (fk k)] w fun e w' => e = .returned (.pointer (some ⟨slotB s k rb ob, slotI s k, none⟩)) ∧ ∃ q, w' = w.drewN q := by
  obtain ⟨c0, c1, c2, c3, _, _, _⟩ := h.cells
  have hg := h.hg
  have hp2 := hW.p2
  have hp20 := hW.p20
  obtain ⟨a1, a2, a3, a4⟩ := two_pw hp2 hp20
  have b1 := bkt_hx k (p := s.pw) (by omega)
  have b2 := bkt_hx k (p := s.pw - 1) (by omega)
  rw [show ((s.pw - 1 : Nat) : Int) = (s.pw : Int) - 1 from by omega] at b2
  have l1 := hx_lt k s.pw
  have l2 := hx_lt k (s.pw - 1)
  have fr := fk_range k
  have hyes : s.g = true → s.m ≤ hx k (s.pw - 1) → slotB s k rb ob = ob ∧ slotI s k = hx k (s.pw - 1) := fun q1 q2 => ⟨if_pos ⟨q1, q2⟩, if_pos ⟨q1, q2⟩⟩
  have hno : ¬ (s.g = true ∧ s.m ≤ hx k (s.pw - 1)) → slotB s k rb ob = rb ∧ slotI s k = hx k s.pw := fun q => ⟨if_neg q, if_neg q⟩
  obtain ⟨sb, hsb⟩ : ∃ b, slotB s k rb ob = b := ⟨_, rfl⟩
  obtain ⟨si, hsi⟩ : ∃ b, slotI s k = b := ⟨_, rfl⟩
  rw [hsb, hsi] at hyes hno ⊢
  obtain ⟨h0, hh0⟩ : ∃ h0, fk k = h0 := ⟨_, rfl⟩
  obtain ⟨N, hN⟩ : ∃ N, 2 ^ s.pw = N := ⟨_, rfl⟩
  obtain ⟨M, hM⟩ : ∃ N, 2 ^ (s.pw - 1) = N := ⟨_, rfl⟩
  obtain ⟨i1, hi1⟩ : ∃ i, hx k s.pw = i := ⟨_, rfl⟩
  obtain ⟨i2, hi2⟩ : ∃ i, hx k (s.pw - 1) = i := ⟨_, rfl⟩
  obtain ⟨g, hgg⟩ : ∃ g, s.g = g := ⟨_, rfl⟩
  obtain ⟨m, hm⟩ : ∃ m, s.m = m := ⟨_, rfl⟩
  have hmv : g = true → mvv = m := fun e => by rw [← hm]; exact (hg (hgg.trans e)).1
  obtain ⟨P, hP⟩ : ∃ P, s.pw = P := ⟨_, rfl⟩
  rw [hh0] at b1 b2 fr ⊢
  rw [hN] at c2 l1 a1 a2
  rw [hM, hgg] at c1
  rw [hM] at l2
  rw [hi1] at b1 l1 hno
  rw [hi2] at b2 l2 hyes hno
  rw [hgg, hm] at hyes hno
  rw [hP] at c0 b1 b2 hp2 hp20
  have HB1 := Lib.hid (fun w n => bucket_q h0 P i1 w fr.1 fr.2 b1 n)
  have HB2 := Lib.hid (bucket_any h0 ((P : Int) - 1) w fr.1 fr.2)
  rw [b2] at HB2
  clear h hg hW a3 a4 b1 b2 fr hh0 hN hM hi1 hi2 hgg hm hP hsb hsi
  have hwr : IntKind.i64.wrap ((P : Int) - 1) = (P : Int) - 1 := by rw [IntKind.wrap_i64]; omega
  rcases g with _ | _
  · obtain ⟨rfl, rfl⟩ := hno (by simp)
    clear hyes hno
    simp only [Bool.false_eq_true, if_false] at c1
    go_enter Try.func27, Try.ntmps27
    go_wp2_with fail
    go_quiet ((go_at_call 19; exact Calls.quiet_of_same (HB1.out _ _)))
    go_wp2_with fail
    go_ret
    exact ⟨rfl, _, rfl⟩
  · have hmv := hmv rfl
    subst hmv
    simp only [if_true] at c1
    by_cases hmi : m ≤ i2
    · have hd : decide ((m : Int) ≤ (i2 : Int)) = true := decide_eq_true (by omega)
      obtain ⟨rfl, rfl⟩ := hyes rfl hmi
      clear hyes hno
      go_enter Try.func27, Try.ntmps27
      go_wp2_with fail
      refine HB2.out.mono ?_
      rintro e w1 ⟨rfl, rfl⟩
      go_wp2_with fail
      go_ret
      exact ⟨rfl, 0, rfl⟩
    · have hd : decide ((m : Int) ≤ (i2 : Int)) = false := decide_eq_false (by omega)
      obtain ⟨rfl, rfl⟩ := hno (fun q => hmi q.2)
      clear hyes hno
      go_enter Try.func27, Try.ntmps27
      go_wp2_with fail
      refine HB2.out.mono ?_
      rintro e w1 ⟨rfl, rfl⟩
      go_wp2_with fail
      go_quiet ((go_at_call 19; exact Calls.quiet_of_same (HB1.out _ _)))
      go_wp2_with fail
      go_ret
      exact ⟨rfl, _, rfl⟩
/-- Where find stands: some entries are passed. -/
def Fnd (w : World) (S : Nat → Prop) (rb ob : Nat) (s : ChS) (k : ByteArray) (a : Addr) (v' : Value) (pre suf : List KN) : Prop :=
  home s k = pre ++ suf ∧ k ∉ ks pre ∧ Chn w S v' suf ∧ w.cell? a = some v' ∧ w.frozen? a = false ∧
  ∃ v vs, w.heap[slotB s k rb ob]? = some (.cells (List.toArray vs) 59 (0, 0)) ∧ vs[slotI s k]? = some v ∧ S (slotB s k rb ob) ∧ Hole w S ⟨slotB s k rb ob, slotI s k, none⟩ v pre a v'
theorem fnd_start {w : World} {S : Nat → Prop} {t rb ob : Nat} {s : ChS} {xs ys : List Value} {mvv : Int} (hW : ChW s) (h : ChO w S t s rb ob xs ys mvv) (k : ByteArray) : ∃ v', Fnd w S rb ob s k ⟨slotB s k rb ob, slotI s k, none⟩ v' [] (home s k) := by
  obtain ⟨vs, v, h1, h2, h3, h4⟩ := home_at hW h k
  obtain ⟨h5, h6⟩ := arr_cells h1 h2
  exact ⟨v, rfl, by simp [ks], h4, h5, h6, v, vs, h1, h2, h3, rfl, rfl⟩
theorem fnd_next {w : World} {S : Nat → Prop} {rb ob : Nat} {s : ChS} {k k0 : ByteArray} {n0 : Int} {a : Addr} {v' nx : Value} {pre suf : List KN} {b : Nat} (h : Fnd w S rb ob s k a v' pre ((k0, n0) :: suf)) (hv : v' = .pointer (some ⟨b, 0, none⟩)) (hS : S b) (hb : w.heap[b]? = some (entB k0 n0 nx)) (hc : Chn w S nx suf) (hne : k0 ≠ k) :
    Fnd w S rb ob s k ⟨b, 3, none⟩ nx (pre ++ [(k0, n0)]) suf := by
  obtain ⟨h1, h2, _, _, _, v, vs, h6, h7, h8, h9⟩ := h
  obtain ⟨_, _, _, e3, ef⟩ := ent_cells hb
  exact ⟨by rw [h1]; simp, by rw [ks_app]; intro q; rcases List.mem_append.1 q with q | q; exact h2 q; simp [ks] at q; exact hne q.symm, hc, e3, ef 3, v, vs, h6, h7, h8, hole_snoc h9 hv hS hb⟩
set_option maxHeartbeats 1000000 in
theorem ch_find (S : Nat → Prop) (t rb ob : Nat) (s : ChS) (xs ys : List Value) (mvv : Int) (k : ByteArray) (hk : k.size ≤ 9223372036854775807) (w : World) (hW : ChW s) (h : ChO w S t s rb ob xs ys mvv) :
    Calls Try.prog 26 #[.pointer (some ⟨t, 0, none⟩), .string k] w fun e w' => ∃ a v' pre suf q, e = .returned (.pointer (some a)) ∧ w' = w.drewN q ∧ Fnd w S rb ob s k a v' pre suf ∧ (suf = [] ∨ ∃ n suf', suf = (k, n) :: suf') := by
  have HB := Lib.hid (ch_bucket S t rb ob s xs ys mvv k w hW h)
  obtain ⟨v0, hf0⟩ := fnd_start hW h k
  have HF := Lib.hid hf0
  have HO := Lib.hid (of_any k w hk)
  obtain ⟨hh, hhe⟩ : ∃ x, fk k = x := ⟨_, rfl⟩
  have hhe' : fnv k.data.toList = hh := hhe
  rw [hhe] at HB
  rw [hhe'] at HO
  clear h hf0 hhe hhe'
  go_enter Try.func26, Try.ntmps26
  go_wp2_with fail
  refine HO.out.mono ?_
  rintro e w1 ⟨rfl, rfl⟩
  go_wp2_with fail
  refine HB.out.mono ?_
  rintro e w1 ⟨rfl, q, rfl⟩
  go_wp2_with fail
  go_loopg [5] (home s k).length (fun n p wr => ∃ a v' pre suf, n = suf.length ∧ p = .pointer (some a) ∧ wr = w.drewN q ∧ Fnd w S rb ob s k a v' pre suf)
  case atStart => exact ⟨_, v0, [], home s k, rfl, rfl, rfl, HF.out⟩
  case round =>
    obtain ⟨a, v', pre, suf, hn, rfl, rfl, hfd⟩ := hrel
    have hca : (w.drewN q).cell? a = some v' := hfd.2.2.2.1
    have HFd := Lib.hid hfd
    have hch := hfd.2.2.1
    clear hfd
    match suf, hch, HFd, hn with
    | [], hch, HFd, hn =>
      have hv : v' = .pointer none := hch
      subst hv
      clear hch
      go_wp2
      go_ret
      exact ⟨a, _, pre, [], q, rfl, rfl, HFd.out, Or.inl rfl⟩
    | (k0, n0) :: suf', ⟨b, nx, hv, hS, hb, hc⟩, HFd, hn =>
      obtain ⟨e0, e1, e2, e3, ef⟩ := ent_cells hb
      have g0 : (w.drewN q).cell? ⟨b, 0, none⟩ = some (.string k0) := e0
      have g3 : (w.drewN q).cell? ⟨b, 3, none⟩ = some nx := e3
      have HC := Lib.hid (And.intro hS (And.intro hb hc))
      subst hv
      clear hS hb hc e0 e1 e2 e3 ef
      by_cases he : k0 = k
      · subst he
        go_wp2
        go_ret
        exact ⟨a, _, pre, _, q, rfl, rfl, HFd.out, Or.inr ⟨n0, suf', rfl⟩⟩
      · have hb1 : (k0.toList == k.toList) = false := bytes_ne he
        have HE := Lib.hid he
        clear he
        go_wp2
        go_roundg (gk - 1)
        case measure => simp at hn; omega
        case rel => exact ⟨_, nx, pre ++ [(k0, n0)], suf', by simp at hn; omega, rfl, rfl, fnd_next HFd.out rfl HC.out.1 HC.out.2.1 HC.out.2.2 HE.out⟩
/-- A key's number in a list. -/
def getN : List KN → ByteArray → Option Int
  | [], _ => none
  | e :: l, k => if e.1 = k then some e.2 else getN l k
theorem getN_none {k : ByteArray} : ∀ {l : List KN}, k ∉ ks l → getN l k = none
  | [], _ => rfl
  | e :: l, h => by
    have h1 : e.1 ≠ k := fun q => h (by rw [ks_cons, q]; simp)
    unfold getN
    rw [if_neg h1]
    exact getN_none fun q => h (by rw [ks_cons]; exact List.mem_cons_of_mem _ q)
theorem getN_at {k : ByteArray} {n : Int} {suf : List KN} : ∀ {pre : List KN}, k ∉ ks pre → getN (pre ++ (k, n) :: suf) k = some n
  | [], _ => by simp [getN]
  | e :: l, h => by
    have h1 : e.1 ≠ k := fun q => h (by rw [ks_cons, q]; simp)
    show getN (e :: (l ++ (k, n) :: suf)) k = some n
    unfold getN
    rw [if_neg h1]
    exact getN_at fun q => h (by rw [ks_cons]; exact List.mem_cons_of_mem _ q)
/-- What is told of a key. -/
def look (s : ChS) (k : ByteArray) : Option Int := getN (home s k) k
set_option maxHeartbeats 1000000 in
theorem ch_get (S : Nat → Prop) (t : Nat) (s : ChS) (k : ByteArray) (hk : k.size ≤ 9223372036854775807) (w : World) (h : ChAt w S t s) :
    Calls Try.prog 16 #[.pointer (some ⟨t, 0, none⟩), .string k] w fun e w' => e = .returned (.tuple #[.int .i64 ((look s k).getD 0), .bool (look s k).isSome]) ∧ ∃ q, w' = w.drewN q := by
  obtain ⟨hW, rb, ob, xs, ys, mvv, h⟩ := h
  have HF := Lib.hid (ch_find S t rb ob s xs ys mvv k hk w hW h)
  clear h
  go_enter Try.func16, Try.ntmps16
  go_wp2_with fail
  refine HF.out.mono ?_
  rintro e w1 ⟨a, v', pre, suf, q, rfl, rfl, hfd, hs⟩
  have hca : (w.drewN q).cell? a = some v' := hfd.2.2.2.1
  rcases hs with rfl | ⟨n, suf', rfl⟩
  · have hv : v' = .pointer none := hfd.2.2.1
    subst hv
    have hl : look s k = none := by unfold look; rw [hfd.1, List.append_nil]; exact getN_none hfd.2.1
    have HL := Lib.hid hl
    clear hfd hl
    go_wp2
    go_ret2
    exact ⟨by rw [HL.out]; rfl, _, rfl⟩
  · obtain ⟨b, nx, hv, hS, hb, hc⟩ := hfd.2.2.1
    subst hv
    obtain ⟨_, _, e2, _, _⟩ := ent_cells hb
    have g2 : (w.drewN q).cell? ⟨b, 2, none⟩ = some (.int .i64 n) := e2
    have hl : look s k = some n := by unfold look; rw [hfd.1]; exact getN_at hfd.2.1
    have HL := Lib.hid hl
    clear hfd hl hb hc
    go_wp2
    go_ret2
    exact ⟨by rw [HL.out]; rfl, _, rfl⟩
end Go.Proofs.Ytnabgcnndehaaaa
