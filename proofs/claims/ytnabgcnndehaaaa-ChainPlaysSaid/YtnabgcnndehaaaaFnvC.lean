/- The functions of layer 4 (hash) and of its reference: what each call gives. -/
import Derived.Test.YtnabgcnndehaaaaRows
import Derived.WalkKit
import Derived.WalkSpells
import Derived.WalkLawsBesides
import Derived.Lib.Hide
namespace Go.Proofs.Ytnabgcnndehaaaa
open Go.RowKit
set_option linter.unusedVariables false

def fnvStep (x : Int) (b : UInt8) : Int := IntKind.u64.wrap (bits BinOp.xor IntKind.u64 x (IntKind.u64.wrap (b.toNat : Int)) * 1099511628211)
def fnv (l : List UInt8) : Int := l.foldl fnvStep 14695981039346656037
theorem fnv_take (s : ByteArray) (k : Nat) (h : k < s.size) : fnv (s.data.toList.take (k + 1)) = fnvStep (fnv (s.data.toList.take k)) s[k] := by
  unfold fnv
  rw [List.take_succ_eq_append_getElem (by simpa using h), List.foldl_append]; rfl
theorem fnv_all (s : ByteArray) (k : Nat) (h : ¬ k < s.size) : fnv (s.data.toList.take k) = fnv s.data.toList := by
  rw [List.take_of_length_le (by simp; omega)]

set_option maxHeartbeats 400000 in
theorem of_any (s : ByteArray) (w : World) (hs : s.size ≤ 9223372036854775807) :
    Calls Try.prog 20 #[.string s] w fun e w' => e = .returned (.int .u64 (fnv s.data.toList)) ∧ w = w' := by
  go_enter Try.func20, Try.ntmps20
  go_wp2
  go_loop [3, 7] (fun h i => ∃ (k : Nat), k ≤ s.size ∧ i = .int .i64 k ∧ h = .int .u64 (fnv (s.data.toList.take k))) (fun _ i => s.size - (intOf i).toNat)
  case atStart => exact ⟨0, Nat.zero_le _, rfl, rfl⟩
  case round =>
    obtain ⟨k, hk, rfl, rfl⟩ := hrel
    by_cases hlt : k < s.size
    · have H := Lib.hid (fnv_take s k hlt)
      go_wp2
      go_round
      case rel => exact ⟨k + 1, by omega, by go_num, by rw [H.out]; rfl⟩
      case measure => simp [intOf]; omega
    · have H := fnv_all s k hlt
      go_wp2
      go_ret
      exact ⟨rfl, rfl⟩

set_option maxHeartbeats 400000 in
theorem refOf_any (s : ByteArray) (w : World) (hs : s.size ≤ 9223372036854775807) :
    Calls Try.prog 40 #[.string s] w fun e w' => e = .returned (.int .u64 (fnv s.data.toList)) ∧ w = w' := by
  go_enter Try.func40, Try.ntmps40
  go_wp2
  go_loop [3, 4] (fun h i => ∃ (k : Nat), k ≤ s.size ∧ i = .int .i64 k ∧ h = .int .u64 (fnv (s.data.toList.take k))) (fun _ i => s.size - (intOf i).toNat)
  case atStart => exact ⟨0, Nat.zero_le _, rfl, rfl⟩
  case round =>
    obtain ⟨k, hk, rfl, rfl⟩ := hrel
    by_cases hlt : k < s.size
    · have H := Lib.hid (fnv_take s k hlt)
      go_wp2
      go_round
      case rel => exact ⟨k + 1, by omega, by go_num, by rw [H.out]; rfl⟩
      case measure => simp [intOf]; omega
    · have H := fnv_all s k hlt
      go_wp2
      go_ret
      exact ⟨rfl, rfl⟩

def bkt (h p : Int) : Int := if p < 0 ∨ 30 < p then 0 else h % 2 ^ p.toNat
def stp (h n : Int) : Int := if n < 1 then 0 else h / 4294967296 % n

theorem two_pow_pos (p : Nat) : (0 : Int) < 2 ^ p := Int.pow_pos (by omega)
theorem two_pow_le (p : Nat) (h : p ≤ 30) : (2 : Int) ^ p ≤ 1073741824 := by
  have := Nat.pow_le_pow_right (n := 2) (by omega) h
  have e : ((2 ^ p : Nat) : Int) = 2 ^ p := by simp
  omega
theorem bkt_eq (h p : Int) (h0 : 0 ≤ h) (h1 : h < 18446744073709551616) (p0 : 0 ≤ p) (p1 : p ≤ 30) :
    wrap64 (bits BinOp.and IntKind.u64 h (IntKind.u64.wrap (IntKind.u64.wrap (2 ^ p.toNat) - 1))) = bkt h p := by
  have hp := two_pow_pos p.toNat
  have hq := two_pow_le p.toNat (by omega)
  rw [IntKind.wrap_u64, IntKind.wrap_u64]
  rw [show (2 ^ p.toNat : Int) % 18446744073709551616 = 2 ^ p.toNat from by omega]
  rw [show ((2 : Int) ^ p.toNat - 1) % 18446744073709551616 = 2 ^ p.toNat - 1 from by omega]
  rw [u64_and h _ h0 h1 (by omega) (by omega)]
  have e : ((2 : Int) ^ p.toNat - 1).toNat = 2 ^ p.toNat - 1 := by
    have e : ((2 ^ p.toNat : Nat) : Int) = 2 ^ p.toNat := by simp
    omega
  rw [e, Nat.and_two_pow_sub_one_eq_mod]
  have e2 : ((h.toNat % 2 ^ p.toNat : Nat) : Int) = h % 2 ^ p.toNat := by
    rw [Int.natCast_emod, Int.toNat_of_nonneg h0, Int.natCast_pow]; rfl
  rw [e2]
  have h3 := Int.emod_nonneg h (Int.ne_of_gt hp)
  have h4 := Int.emod_lt_of_pos h hp
  unfold bkt
  rw [if_neg (by omega)]
  unfold wrap64; omega

theorem bucket_any (h p : Int) (w : World) (h0 : 0 ≤ h) (h1 : h < 18446744073709551616) :
    Calls Try.prog 19 #[.int .u64 h, .int .i64 p] w fun e w' => e = .returned (.int .i64 (bkt h p)) ∧ w = w' := by
  by_cases hp : p < 0 ∨ 30 < p
  · have H := Lib.hid (show bkt h p = 0 by unfold bkt; rw [if_pos hp])
    rcases hp with hp | hp
    all_goals
      go_enter Try.func19, Try.ntmps19
      go_wp2
      go_ret
      exact ⟨by rw [H.out]; rfl, rfl⟩
  · have H := Lib.hid (bkt_eq h p h0 h1 (by omega) (by omega))
    clear h0 h1
    have hp' : 0 ≤ p ∧ p ≤ 30 := by omega
    obtain ⟨p0, p1⟩ := hp'
    clear hp
    go_enter Try.func19, Try.ntmps19
    go_wp2
    go_ret
    exact ⟨by rw [← H.out]; rfl, rfl⟩

theorem fnv_range (l : List UInt8) : 0 ≤ fnv l ∧ fnv l < 18446744073709551616 := by
  unfold fnv
  rw [← List.reverse_reverse l, List.foldl_reverse]
  cases l.reverse with
  | nil => decide
  | cons x l => simp only [List.foldr_cons]; unfold fnvStep; rw [IntKind.wrap_u64]; omega
end Go.Proofs.Ytnabgcnndehaaaa
