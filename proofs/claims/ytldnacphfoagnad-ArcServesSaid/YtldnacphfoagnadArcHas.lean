/- Layer 13 (arc): does a row have a number? -/
import Derived.Test.YtldnacphfoagnadArcServe
namespace Go.Proofs.Ytldnacphfoagnad
open Go.RowKit
set_option linter.unusedVariables false
theorem has_any {S : Nat → Prop} {v : Value} (l : List Int) (x : Int) (w : World) (h : Sl w S 3 1 v l.length (l.map (Value.int .i64))) (hl : l.length ≤ 1000000) :
    Calls Try.prog 24 #[v, .int .i64 x] w fun e w' => e = .returned (.bool (decide (x ∈ l))) ∧ w = w' := by
  obtain ⟨a, cap, rfl, hat⟩ := sl_at h
  have HA := Lib.hid hat
  clear h hat
  obtain ⟨bb, hbb⟩ : ∃ bb, decide (x ∈ l) = bb := ⟨_, rfl⟩
  rw [hbb]
  have HB := Lib.hid hbb
  clear hbb
  go_enter Try.func24, Try.ntmps24
  go_wp2_with fail
  go_loopw [5] (fun i wr => ∃ k : Nat, k ≤ l.length ∧ i = .int .i64 k ∧ x ∉ l.take k ∧ wr = w) (fun i _ => l.length - (intOf i).toNat)
  case atStart => exact ⟨0, by omega, rfl, by simp, rfl⟩
  case round =>
    obtain ⟨k, hk, rfl, hno, rfl⟩ := hrel
    have HN := Lib.hid hno
    clear hno
    by_cases hlt : k < l.length
    · obtain ⟨y, hy⟩ : ∃ y, l[k]? = some y := ⟨_, List.getElem?_eq_getElem hlt⟩
      obtain ⟨b, off, rfl, _, _, hc, _⟩ := HA.out k y hy
      have HY := Lib.hid hy
      clear hy
      by_cases he : y = x
      · subst he
        have hm : decide (y ∈ l) = true := decide_eq_true (List.mem_of_getElem? HY.out)
        have HM := Lib.hid hm
        clear hm
        go_wp2
        go_ret
        exact ⟨congrArg (fun b => Ending.returned (Value.bool b)) (HM.out.symm.trans HB.out), rfl⟩
      · have he' : (y == x) = false := by rw [beq_eq_false_iff_ne]; exact he
        have HE := Lib.hid he
        clear he
        go_wp2_with fail
        go_roundw
        case rel =>
          refine ⟨k + 1, by omega, by go_num, ?_, trivial⟩
          rw [List.take_succ_eq_append_getElem hlt, List.mem_append]
          intro q
          rcases q with q | q
          · exact HN.out q
          · simp at q
            have := (List.getElem?_eq_some_iff.1 HY.out).2
            exact HE.out (by rw [← this, q])
        case measure => simp [intOf]; omega
    · have hm : decide (x ∈ l) = false := decide_eq_false (by have := HN.out; rw [List.take_of_length_le (by omega)] at this; exact this)
      have HM := Lib.hid hm
      clear hm
      go_wp2
      go_ret
      exact ⟨congrArg (fun b => Ending.returned (Value.bool b)) (HM.out.symm.trans HB.out), rfl⟩
end Go.Proofs.Ytldnacphfoagnad
