/- The functions of layer 4 (hash) and of its reference: what each call gives. -/
import Derived.Test.YtdmlnnknlhgneaaRows
import Derived.WalkKit
import Derived.WalkSpells
import Derived.WalkLawsBesides
import Derived.Lib.Hide
namespace Go.Proofs.Ytdmlnnknlhgneaa
open Go.RowKit
set_option linter.unusedVariables false

def fnvStep (x : Int) (b : UInt8) : Int := IntKind.u64.wrap (bits BinOp.xor IntKind.u64 x (IntKind.u64.wrap (b.toNat : Int)) * 1099511628211)
def fnv (l : List UInt8) : Int := l.foldl fnvStep 14695981039346656037
theorem fnv_take (s : ByteArray) (k : Nat) (h : k < s.size) : fnv (s.data.toList.take (k + 1)) = fnvStep (fnv (s.data.toList.take k)) s[k] := by
  unfold fnv
  rw [List.take_succ_eq_append_getElem (by simpa using h), List.foldl_append]; rfl
theorem fnv_all (s : ByteArray) (k : Nat) (h : ¬ k < s.size) : fnv (s.data.toList.take k) = fnv s.data.toList := by
  rw [List.take_of_length_le (by simp; omega)]

set_option maxHeartbeats 400000 in
theorem of_any (s : ByteArray) (w : World) (hs : s.size ≤ 9223372036854775807) :
    Calls Try.prog 10 #[.string s] w fun e w' => e = .returned (.int .u64 (fnv s.data.toList)) ∧ w = w' := by
  go_enter Try.func10, Try.ntmps10
  go_wp2
  go_loop [3, 7] (fun h i => ∃ (k : Nat), k ≤ s.size ∧ i = .int .i64 k ∧ h = .int .u64 (fnv (s.data.toList.take k))) (fun _ i => s.size - (intOf i).toNat)
  case atStart => exact ⟨0, Nat.zero_le _, rfl, rfl⟩
  case round =>
    obtain ⟨k, hk, rfl, rfl⟩ := hrel
    by_cases hlt : k < s.size
    · have H := Lib.hid (fnv_take s k hlt)
      go_wp2
      go_round
      case rel => exact ⟨k + 1, by omega, by go_num, by rw [H.out]; rfl⟩
      case measure => simp [intOf]; omega
    · have H := fnv_all s k hlt
      go_wp2
      go_ret
      exact ⟨rfl, rfl⟩

set_option maxHeartbeats 400000 in
theorem refOf_any (s : ByteArray) (w : World) (hs : s.size ≤ 9223372036854775807) :
    Calls Try.prog 11 #[.string s] w fun e w' => e = .returned (.int .u64 (fnv s.data.toList)) ∧ w = w' := by
  go_enter Try.func11, Try.ntmps11
  go_wp2
  go_loop [3, 4] (fun h i => ∃ (k : Nat), k ≤ s.size ∧ i = .int .i64 k ∧ h = .int .u64 (fnv (s.data.toList.take k))) (fun _ i => s.size - (intOf i).toNat)
  case atStart => exact ⟨0, Nat.zero_le _, rfl, rfl⟩
  case round =>
    obtain ⟨k, hk, rfl, rfl⟩ := hrel
    by_cases hlt : k < s.size
    · have H := Lib.hid (fnv_take s k hlt)
      go_wp2
      go_round
      case rel => exact ⟨k + 1, by omega, by go_num, by rw [H.out]; rfl⟩
      case measure => simp [intOf]; omega
    · have H := fnv_all s k hlt
      go_wp2
      go_ret
      exact ⟨rfl, rfl⟩

def bkt (h p : Int) : Int := if p < 0 ∨ 30 < p then 0 else h % 2 ^ p.toNat
def stp (h n : Int) : Int := if n < 1 then 0 else h / 4294967296 % n

theorem two_pow_pos (p : Nat) : (0 : Int) < 2 ^ p := Int.pow_pos (by omega)
theorem two_pow_le (p : Nat) (h : p ≤ 30) : (2 : Int) ^ p ≤ 1073741824 := by
  have := Nat.pow_le_pow_right (n := 2) (by omega) h
  have e : ((2 ^ p : Nat) : Int) = 2 ^ p := by simp
  omega
theorem bkt_eq (h p : Int) (h0 : 0 ≤ h) (h1 : h < 18446744073709551616) (p0 : 0 ≤ p) (p1 : p ≤ 30) :
    wrap64 (bits BinOp.and IntKind.u64 h (IntKind.u64.wrap (IntKind.u64.wrap (2 ^ p.toNat) - 1))) = bkt h p := by
  have hp := two_pow_pos p.toNat
  have hq := two_pow_le p.toNat (by omega)
  rw [IntKind.wrap_u64, IntKind.wrap_u64]
  rw [show (2 ^ p.toNat : Int) % 18446744073709551616 = 2 ^ p.toNat from by omega]
  rw [show ((2 : Int) ^ p.toNat - 1) % 18446744073709551616 = 2 ^ p.toNat - 1 from by omega]
  rw [u64_and h _ h0 h1 (by omega) (by omega)]
  have e : ((2 : Int) ^ p.toNat - 1).toNat = 2 ^ p.toNat - 1 := by
    have e : ((2 ^ p.toNat : Nat) : Int) = 2 ^ p.toNat := by simp
    omega
  rw [e, Nat.and_two_pow_sub_one_eq_mod]
  have e2 : ((h.toNat % 2 ^ p.toNat : Nat) : Int) = h % 2 ^ p.toNat := by
    rw [Int.natCast_emod, Int.toNat_of_nonneg h0, Int.natCast_pow]; rfl
  rw [e2]
  have h3 := Int.emod_nonneg h (Int.ne_of_gt hp)
  have h4 := Int.emod_lt_of_pos h hp
  unfold bkt
  rw [if_neg (by omega)]
  unfold wrap64; omega

theorem bucket_any (h p : Int) (w : World) (h0 : 0 ≤ h) (h1 : h < 18446744073709551616) :
    Calls Try.prog 12 #[.int .u64 h, .int .i64 p] w fun e w' => e = .returned (.int .i64 (bkt h p)) ∧ w = w' := by
  by_cases hp : p < 0 ∨ 30 < p
  · have H := Lib.hid (show bkt h p = 0 by unfold bkt; rw [if_pos hp])
    rcases hp with hp | hp
    all_goals
      go_enter Try.func12, Try.ntmps12
      go_wp2
      go_ret
      exact ⟨by rw [H.out]; rfl, rfl⟩
  · have H := Lib.hid (bkt_eq h p h0 h1 (by omega) (by omega))
    clear h0 h1
    have hp' : 0 ≤ p ∧ p ≤ 30 := by omega
    obtain ⟨p0, p1⟩ := hp'
    clear hp
    go_enter Try.func12, Try.ntmps12
    go_wp2
    go_ret
    exact ⟨by rw [← H.out]; rfl, rfl⟩

theorem stp_eq (h n : Int) (h0 : 0 ≤ h) (h1 : h < 18446744073709551616) (p0 : 1 ≤ n) (p1 : n ≤ 9223372036854775807) :
    wrap64 (h / 4294967296 % n) = stp h n ∧ wrap64 ((IntKind.u64.wrap (h.tdiv 4294967296)).tmod n) = stp h n := by
  have h3 := Int.emod_nonneg (h / 4294967296) (show n ≠ 0 by omega)
  have h4 := Int.emod_lt_of_pos (h / 4294967296) (show 0 < n by omega)
  have e : stp h n = h / 4294967296 % n := by unfold stp; rw [if_neg (by omega)]
  rw [e, IntKind.wrap_u64, Int.tdiv_eq_ediv_of_nonneg h0, tmod_of_emod, show h / 4294967296 % 18446744073709551616 = h / 4294967296 from by omega]
  have : wrap64 (h / 4294967296 % n) = h / 4294967296 % n := by unfold wrap64; omega
  exact ⟨this, this⟩

set_option maxHeartbeats 400000 in
theorem stripe_any (h n : Int) (w : World) (h0 : 0 ≤ h) (h1 : h < 18446744073709551616) (n1 : n ≤ 9223372036854775807) :
    Calls Try.prog 14 #[.int .u64 h, .int .i64 n] w fun e w' => e = .returned (.int .i64 (stp h n)) ∧ w = w' := by
  by_cases hp : n < 1
  · have H := Lib.hid (show stp h n = 0 by unfold stp; rw [if_pos hp])
    go_enter Try.func14, Try.ntmps14
    go_wp2
    go_ret
    exact ⟨by rw [H.out]; rfl, rfl⟩
  · have H := Lib.hid (stp_eq h n h0 h1 (by omega) n1).1
    clear h1
    go_enter Try.func14, Try.ntmps14
    go_wp2
    go_ret
    exact ⟨by rw [← H.out]; rfl, rfl⟩

set_option maxHeartbeats 400000 in
theorem refStripe_any (h n : Int) (w : World) (h0 : 0 ≤ h) (h1 : h < 18446744073709551616) (n1 : n ≤ 9223372036854775807) :
    Calls Try.prog 15 #[.int .u64 h, .int .i64 n] w fun e w' => e = .returned (.int .i64 (stp h n)) ∧ w = w' := by
  by_cases hp : n < 1
  · have H := Lib.hid (show stp h n = 0 by unfold stp; rw [if_pos hp])
    go_enter Try.func15, Try.ntmps15
    go_wp2
    go_ret
    exact ⟨by rw [H.out]; rfl, rfl⟩
  · have H := Lib.hid (stp_eq h n h0 h1 (by omega) n1).2
    clear h1
    go_enter Try.func15, Try.ntmps15
    go_wp2
    go_ret
    exact ⟨by rw [← H.out]; rfl, rfl⟩

def pw (k : Nat) : Int := 2 ^ k
theorem pw_succ (k : Nat) (p : Int) (h : (k : Int) < p) (hp : p ≤ 30) : IntKind.u64.wrap (2 * pw k) = pw (k + 1) := by
  have h1 := two_pow_pos k
  have h2 := two_pow_le k (by omega)
  have h3 : (2 : Int) ^ (k + 1) = 2 * 2 ^ k := by rw [Int.pow_succ]; omega
  unfold pw; rw [IntKind.wrap_u64, h3]; omega
theorem pw_mod (h p : Int) (k : Nat) (hk : (k : Int) = p) (hp : p ≤ 30) : wrap64 (h % pw k) = bkt h p := by
  have h1 := two_pow_pos k
  have h2 := two_pow_le k (by omega)
  have h3 := Int.emod_nonneg h (show (2 : Int) ^ k ≠ 0 by omega)
  have h4 := Int.emod_lt_of_pos h h1
  subst hk
  unfold bkt pw; rw [if_neg (by omega), Int.toNat_natCast]
  unfold wrap64; omega

set_option maxHeartbeats 400000 in
theorem refBucket_any (h p : Int) (w : World) (h0 : 0 ≤ h) (h1 : h < 18446744073709551616) :
    Calls Try.prog 13 #[.int .u64 h, .int .i64 p] w fun e w' => e = .returned (.int .i64 (bkt h p)) ∧ w = w' := by
  by_cases hp : p < 0 ∨ 30 < p
  · have H := Lib.hid (show bkt h p = 0 by unfold bkt; rw [if_pos hp])
    rcases hp with hp | hp
    all_goals
      go_enter Try.func13, Try.ntmps13
      go_wp2
      go_ret
      exact ⟨by rw [H.out]; rfl, rfl⟩
  · have hp' : 0 ≤ p ∧ p ≤ 30 := by omega
    obtain ⟨p0, p1⟩ := hp'
    clear hp h1
    go_enter Try.func13, Try.ntmps13
    go_wp2
    go_loop [5, 6] (fun x i => ∃ (k : Nat), (k : Int) ≤ p ∧ i = .int .i64 k ∧ x = .int .u64 (pw k)) (fun _ i => p.toNat - (intOf i).toNat)
    case atStart => exact ⟨0, by omega, rfl, rfl⟩
    case round =>
      obtain ⟨k, hk, rfl, rfl⟩ := hrel
      by_cases hlt : k < p
      · have H := Lib.hid (pw_succ k p hlt p1)
        go_wp2
        go_round
        case rel => exact ⟨k + 1, by omega, by go_num, by rw [H.out]⟩
        case measure => simp [intOf]; omega
      · have H := Lib.hid (pw_mod h p k (by omega) p1)
        have hz' : ¬ pw k = 0 := by have := two_pow_pos k; unfold pw; omega
        go_wp2
        go_ret
        exact ⟨by rw [← H.out]; rfl, rfl⟩

theorem fnv_a : fnv [97] = 12638187200555641996 := by decide +kernel
theorem bkt_13 : bkt 13 2 = 1 := by decide +kernel
theorem stp_5 : stp 21474836480 3 = 2 := by decide +kernel
set_option maxHeartbeats 400000 in
theorem shown_any (w : World) :
    Calls Try.prog 9 #[] w fun e w' => e = .returned (.bool true) ∧ w = w' := by
  have e1 : (fnv [97] == 12638187200555641996) = true := by rw [fnv_a]; rfl
  have e2 : (bkt 13 2 == 1) = true := by rw [bkt_13]; rfl
  have e3 : (stp 21474836480 3 == 2) = true := by rw [stp_5]; rfl
  go_enter Try.func9, Try.ntmps9
  go_wp2_with (first
    | (go_at_call 10; refine (of_any _ _ (by decide)).mono ?_; rintro e w' ⟨rfl, rfl⟩)
    | (go_at_call 12; refine (bucket_any _ _ _ (by omega) (by omega)).mono ?_; rintro e w' ⟨rfl, rfl⟩)
    | (go_at_call 14; refine (stripe_any _ _ _ (by omega) (by omega) (by omega)).mono ?_; rintro e w' ⟨rfl, rfl⟩))
  go_ret
  exact ⟨rfl, rfl⟩

theorem up_ok (h m p : Int) (p0 : 0 ≤ p) (p1 : p ≤ 30) : 0 ≤ IntKind.u64.wrap (h + IntKind.u64.wrap (m * 2 ^ p.toNat)) ∧ IntKind.u64.wrap (h + IntKind.u64.wrap (m * 2 ^ p.toNat)) ≤ 18446744073709551615 ∧
    bkt (IntKind.u64.wrap (h + IntKind.u64.wrap (m * 2 ^ p.toNat))) p = bkt h p := by
  rw [IntKind.wrap_u64, IntKind.wrap_u64]
  refine ⟨by omega, by omega, ?_⟩
  have hp := two_pow_pos p.toNat
  unfold bkt; rw [if_neg (by omega), if_neg (by omega)]
  have hd : (2 : Int) ^ p.toNat ∣ 18446744073709551616 := by
    have : (18446744073709551616 : Int) = 2 ^ p.toNat * 2 ^ (64 - p.toNat) := by
      rw [← Int.pow_add, show p.toNat + (64 - p.toNat) = 64 from by omega]; rfl
    exact ⟨_, this⟩
  rw [Int.emod_emod_of_dvd _ hd, Int.add_emod, Int.emod_emod_of_dvd _ hd, Int.mul_emod_left, Int.add_zero, Int.emod_emod]
theorem low_ok (h m n : Int) (h0 : 0 ≤ h) (h1 : h ≤ 18446744073709551615) (m0 : 0 ≤ m) (m1 : m ≤ 18446744073709551615) :
    0 ≤ IntKind.u64.wrap (h / 4294967296 * 4294967296 + bits BinOp.and IntKind.u64 m 4294967295) ∧ IntKind.u64.wrap (h / 4294967296 * 4294967296 + bits BinOp.and IntKind.u64 m 4294967295) ≤ 18446744073709551615 ∧
    stp (IntKind.u64.wrap (h / 4294967296 * 4294967296 + bits BinOp.and IntKind.u64 m 4294967295)) n = stp h n := by
  have e : bits BinOp.and IntKind.u64 m 4294967295 = m % 4294967296 := by
    rw [u64_and m _ m0 (by omega) (by omega) (by omega)]
    rw [show (4294967295 : Int).toNat = 2 ^ 32 - 1 from rfl, Nat.and_two_pow_sub_one_eq_mod]
    omega
  rw [e, IntKind.wrap_u64]
  refine ⟨by omega, by omega, ?_⟩
  unfold stp
  rw [show (h / 4294967296 * 4294967296 + m % 4294967296) % 18446744073709551616 / 4294967296 = h / 4294967296 from by omega]
theorem one_ok (h : Int) : (stp h 1 == 0) = true ∧ (bkt h 0 == 0) = true := by
  constructor
  · unfold stp; rw [if_neg (by omega), Int.emod_one]; rfl
  · unfold bkt; rw [if_neg (by omega)]; show (h % 2 ^ 0 == 0) = true; rw [Int.pow_zero, Int.emod_one]; rfl
theorem conv1 (n : Int) (W : World) :
    (convert 29 9 (.slice (some ⟨W.heap.size, 0, none⟩) 1 1)).run Try.prog (W.alloc (.cells #[.int .u8 n] 5)) = .ok (.string (strOfNums [n])) (W.alloc (.cells #[.int .u8 n] 5)) :=
  run_convert_bytes_arg (P := Try.prog) _ 29 5 Try.underlying29 Try.underlying5 W.heap.size 0 1 1 [n] rfl
    (fun i hi => by obtain rfl : i = 0 := by omega
                    exact World.cell?_alloc_new _ _ _ _) 9 Try.underlying9
theorem size1 (s : ByteArray) (n : Int) (h : s.size ≤ 140737488351232) : (s ++ strOfNums [n]).size ≤ 9223372036854775807 := by
  rw [ByteArray.size_append, strOfNums_size]; simp; omega
theorem fnvStep_bd (x : Int) (b : UInt8) : 0 ≤ fnvStep x b ∧ fnvStep x b ≤ 18446744073709551615 := by
  unfold fnvStep; rw [IntKind.wrap_u64]; omega
theorem fnv_bd (l : List UInt8) : 0 ≤ fnv l ∧ fnv l ≤ 18446744073709551615 := by
  rcases l.eq_nil_or_concat with h | ⟨l, b, h⟩
  · subst h; decide +kernel
  · subst h; unfold fnv; rw [List.concat_eq_append, List.foldl_append]; exact fnvStep_bd _ _
theorem fnv_snoc (s : ByteArray) (n : Int) : fnv (s ++ strOfNums [n]).data.toList = fnvStep (fnv s.data.toList) (UInt8.ofNat n.toNat) := by
  have e : (s ++ strOfNums [n]).data.toList = s.data.toList ++ [UInt8.ofNat n.toNat] := by
    simp [ByteArray.data_append, strOfNums]
  rw [e]; unfold fnv; rw [List.foldl_append]; rfl
theorem mulp_e (z M p q : Int) (hq : p * q % M = 1) : (z * p % M) * q % M = z % M := by
  rw [Int.mul_emod, Int.emod_emod, ← Int.mul_emod, Int.mul_assoc, Int.mul_emod, hq, Int.mul_one, Int.emod_emod]
theorem mulp_inj (u v M p q : Int) (hq : p * q % M = 1) (h0 : 0 ≤ u) (h1 : u < M) (h2 : 0 ≤ v) (h3 : v < M)
    (h : u * p % M = v * p % M) : u = v := by
  have a1 := mulp_e u M p q hq
  have a2 := mulp_e v M p q hq
  rw [h, a2] at a1
  rw [Int.emod_eq_of_lt h0 h1, Int.emod_eq_of_lt h2 h3] at a1
  exact a1.symm
theorem prime_inv : (1099511628211 : Int) * 14886173955864302971 % 18446744073709551616 = 1 := by decide +kernel
theorem fnvStep_inj (x : Int) (a b : UInt8) (h0 : 0 ≤ x) (h1 : x ≤ 18446744073709551615) (h : fnvStep x a = fnvStep x b) : a = b := by
  unfold fnvStep at h
  have ha := a.toNat_lt
  have hb := b.toNat_lt
  simp only [IntKind.wrap_u64] at h
  rw [show ((a.toNat : Int) % 18446744073709551616) = a.toNat from by omega, show ((b.toNat : Int) % 18446744073709551616) = b.toNat from by omega] at h
  rw [u64_xor x _ h0 (by omega) (by omega) (by omega), u64_xor x _ h0 (by omega) (by omega) (by omega)] at h
  rw [Int.toNat_natCast, Int.toNat_natCast] at h
  have hx : x.toNat < 2 ^ 64 := by omega
  have c1 : x.toNat ^^^ a.toNat < 2 ^ 64 := Nat.xor_lt_two_pow hx (by omega)
  have c2 : x.toNat ^^^ b.toNat < 2 ^ 64 := Nat.xor_lt_two_pow hx (by omega)
  generalize hu : x.toNat ^^^ a.toNat = u at *
  generalize hv : x.toNat ^^^ b.toNat = v at *
  have huv : u = v := by
    have d1 : (u : Int) < 18446744073709551616 := by clear h; omega
    have d2 : (v : Int) < 18446744073709551616 := by clear h; omega
    have := mulp_inj (u : Int) (v : Int) _ _ _ prime_inv (Int.natCast_nonneg u) d1 (Int.natCast_nonneg v) d2 h
    exact Int.ofNat_inj.1 this
  have : a.toNat = b.toNat := by
    have e1 : x.toNat ^^^ (x.toNat ^^^ a.toNat) = a.toNat := by rw [← Nat.xor_assoc, Nat.xor_self, Nat.zero_xor]
    have e2 : x.toNat ^^^ (x.toNat ^^^ b.toNat) = b.toNat := by rw [← Nat.xor_assoc, Nat.xor_self, Nat.zero_xor]
    rw [← e1, ← e2, hu, hv, huv]
  exact UInt8.toNat_inj.1 this
theorem byte_ne (s : ByteArray) (a b : Int) (ha : 0 ≤ a ∧ a ≤ 255) (hb : 0 ≤ b ∧ b ≤ 255) (h : a ≠ b) : (fnv (s ++ strOfNums [a]).data.toList == fnv (s ++ strOfNums [b]).data.toList) = false := by
  rw [beq_eq_false_iff_ne, fnv_snoc, fnv_snoc]
  intro e
  have := fnvStep_inj _ _ _ (fnv_bd _).1 (fnv_bd _).2 e
  have h2 := congrArg UInt8.toNat this
  rw [UInt8.toNat_ofNat', UInt8.toNat_ofNat'] at h2
  omega
theorem fnv_cat (s t : ByteArray) : fnv (s ++ t).data.toList = t.data.toList.foldl fnvStep (fnv s.data.toList) := by
  have e : (s ++ t).data.toList = s.data.toList ++ t.data.toList := by simp [ByteArray.data_append]
  rw [e]; unfold fnv; rw [List.foldl_append]
theorem fold_take (s : ByteArray) (k : Nat) (x : Int) (h : k < s.size) : (s.data.toList.take (k + 1)).foldl fnvStep x = fnvStep ((s.data.toList.take k).foldl fnvStep x) s[k] := by
  rw [List.take_succ_eq_append_getElem (by simpa using h), List.foldl_append]; rfl
theorem fold_all (s t : ByteArray) (k : Nat) (h : ¬ k < t.size) : (t.data.toList.take k).foldl fnvStep (fnv s.data.toList) = fnv (s.data.toList ++ t.data.toList) := by
  rw [List.take_of_length_le (by simp; omega)]; unfold fnv; rw [List.foldl_append]
theorem ntmod_rng (x n : Int) (h : x ≤ 0) (hn : 0 < n) : 0 ≤ -x.tmod n ∧ -x.tmod n < n := by
  rw [← Int.neg_tmod, Int.tmod_eq_emod_of_nonneg (by omega)]
  exact ⟨Int.emod_nonneg _ (by omega), Int.emod_lt_of_pos _ hn⟩
theorem wrap64_pow (p : Nat) (h : p ≤ 30) : wrap64 (2 ^ p) = 2 ^ p := by
  have h1 := two_pow_pos p
  have h2 := two_pow_le p h
  unfold wrap64; omega
theorem bkt_split (h p : Int) (p0 : 0 ≤ p) (p1 : p ≤ 29) : 0 ≤ bkt h p ∧ bkt h p < wrap64 (2 ^ p.toNat) ∧
    ((bkt h (p + 1) == bkt h p) = true ∨ (bkt h (p + 1) == bkt h p) = false ∧ (bkt h (p + 1) == wrap64 (bkt h p + wrap64 (2 ^ p.toNat))) = true) := by
  have h1 := two_pow_pos p.toNat
  have h2 := two_pow_le p.toNat (by omega)
  rw [wrap64_pow _ (by omega)]
  have e : (p + 1).toNat = p.toNat + 1 := by omega
  have e2 : (2 : Int) ^ (p.toNat + 1) = 2 * 2 ^ p.toNat := by rw [Int.pow_succ]; omega
  have e1 : bkt h p = h % 2 ^ p.toNat := by unfold bkt; rw [if_neg (by omega)]
  have e3 : bkt h (p + 1) = h % (2 * 2 ^ p.toNat) := by unfold bkt; rw [if_neg (by omega), e, e2]
  rw [e1, e3]
  generalize (2 : Int) ^ p.toNat = x at *
  have b1 := Int.emod_nonneg h (show x ≠ 0 by omega)
  have b2 := Int.emod_lt_of_pos h h1
  have b3 := Int.emod_nonneg h (show 2 * x ≠ 0 by omega)
  have b4 := Int.emod_lt_of_pos h (show 0 < 2 * x by omega)
  have b5 : h % (2 * x) % x = h % x := Int.emod_emod_of_dvd h (Int.dvd_mul_left 2 x)
  refine ⟨b1, b2, ?_⟩
  have key : h % (2 * x) = h % x ∨ h % (2 * x) = h % x + x := by
    by_cases c : h % (2 * x) < x
    · left; rw [Int.emod_eq_of_lt b3 c] at b5; exact b5
    · right
      have : (h % (2 * x) - x) % x = h % (2 * x) % x := Int.sub_emod_right _ _
      rw [Int.emod_eq_of_lt (by omega) (by omega), b5] at this
      omega
  rcases key with k | k
  · left; rw [k]; exact beq_self_eq_true _
  · right
    refine ⟨beq_eq_false_iff_ne.2 (by omega), ?_⟩
    rw [beq_iff_eq, k]; unfold wrap64; omega
theorem stp_bd (h n : Int) (h0 : 0 ≤ h) : (n < 1 → (stp h n == 0) = true) ∧ (1 ≤ n → 0 ≤ stp h n ∧ stp h n < n) := by
  constructor
  · intro hn; unfold stp; rw [if_pos hn]; rfl
  · intro hn; unfold stp; rw [if_neg (by omega)]
    exact ⟨Int.emod_nonneg _ (by omega), Int.emod_lt_of_pos _ (by omega)⟩
end Go.Proofs.Ytdmlnnknlhgneaa
