/- Layer 14 (sthree): what each call turns, case by case. -/
import Derived.Test.YtlhiglhhnjljpaaThShown
import Derived.Test.YtlhiglhhnjljpaaCount
namespace Go.Proofs.Ytlhiglhhnjljpaa
open Go.RowKit
set_option linter.unusedVariables false
theorem inOk_new {s : ThS} {id : Int} (hk : s.K id = none) (hid : 0 ≤ id ∧ id ≤ 4194303) : inOk s id = true := decide_eq_true ⟨hk, hid⟩
theorem inOk_old {s : ThS} {id : Int} (hk : s.K id ≠ none) : inOk s id = false := decide_eq_false (fun q => hk q.1)
theorem inT_no {s : ThS} {id h : Int} (hn : inOk s id = false) : inT s id h = s := by unfold inT; rw [if_neg (by rw [hn]; decide)]
theorem inT_new {s : ThS} {id : Int} (hk : s.K id = none) (hid : 0 ≤ id ∧ id ≤ 4194303) (h : Int) : inT s id h = { s with B := grem s.B h, K := setK s.K id (some (h, 0)), L := putF (del s.L id) (inR s h).toNat id } := by
  unfold inT
  rw [if_pos (inOk_new hk hid), front2 _ _ _ (by unfold inR; split <;> simp) hid.1 hid.2]
theorem inR_no {s : ThS} {h : Int} (hn : h ∉ s.B) : inR s h = 0 := if_neg hn
theorem inR_yes {s : ThS} {h : Int} (hn : h ∈ s.B) : inR s h = 1 := if_pos hn
theorem evT_0 {s : ThS} {id : Int} (h0 : id ∈ s.L 0) : evT s id = { s with B := gadd s.mB s.B (numT s id), L := del s.L id, K := setK s.K id none } := by
  unfold evT remT
  rw [if_pos (by rw [rowOf2, if_pos h0])]
theorem evT_1 {s : ThS} {id : Int} (h0 : id ∉ s.L 0) : evT s id = { s with L := del s.L id, K := setK s.K id none } := by
  unfold evT remT
  rw [if_neg (by rw [rowOf2, if_neg h0]; split <;> simp)]
theorem touchT_some {s : ThS} {id h c : Int} (hk : s.K id = some (h, c)) : touchT s id = { s with K := setK s.K id (some (h, min (c + 1) 3)) } := by unfold touchT; rw [hk]
theorem touchT_none {s : ThS} {id : Int} (hk : s.K id = none) : touchT s id = s := by unfold touchT; rw [hk]
theorem countT_some {s : ThS} {id h c : Int} (hk : s.K id = some (h, c)) : countT s id = c := by unfold countT; rw [hk]
theorem countT_none {s : ThS} {id : Int} (hk : s.K id = none) : countT s id = -1 := by unfold countT; rw [hk]
theorem numT_some {s : ThS} {id h c : Int} (hk : s.K id = some (h, c)) : numT s id = h := by unfold numT; rw [hk]
theorem vic_small {s : ThS} (hb : smallB s = true) (hc : countT s (lastOf (s.L 0)) < 2) : vicT s = (s, lastOf (s.L 0)) := by
  unfold vicT vicF
  rw [if_pos hb, if_pos hc]
theorem vic_main {s : ThS} (hb : smallB s = false) (h1 : 0 < (s.L 1).length) (hc : countT s (lastOf (s.L 1)) = 0) : vicT s = (s, lastOf (s.L 1)) := by
  unfold vicT vicF
  rw [if_neg (by rw [hb]; decide), if_pos h1, if_pos hc]
theorem vic_none {s : ThS} (h0 : s.L 0 = []) (h1 : s.L 1 = []) : vicT s = (s, -1) := by
  unfold vicT vicF
  rw [if_neg (by unfold smallB; rw [h0]; simp), if_neg (by rw [h1]; simp)]
end Go.Proofs.Ytlhiglhhnjljpaa
