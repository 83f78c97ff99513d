/- The reference of layer 11: Same. -/
import Derived.Test.YtlhiglhhnjljpaaRef11
import Derived.Deep.QuietTactic
import Derived.BigQuiet
namespace Go.Proofs.Ytlhiglhhnjljpaa
open Go.RowKit
set_option linter.unusedVariables false

set_option maxHeartbeats 1000000 in
/-- Two rows that read alike. -/
theorem same_at (S1 S2 : Nat → Prop) (v1 v2 : Value) (L : List Int) (w : World) (h1 : Sl w S1 29 1 v1 L.length (u64s L)) (h2 : Sl w S2 29 1 v2 L.length (u64s L)) (hN : L.length ≤ 1000000) :
    Calls Try.prog 9 #[v1, v2] w fun e w' => e = .returned (.bool true) ∧ Fr (fun _ => False) w w' := by
  obtain ⟨a1, cap1, rfl, _, hx1⟩ := sl_intsS h1
  obtain ⟨a2, cap2, rfl, _, hx2⟩ := sl_intsS h2
  have HX := Lib.hid (And.intro hx1 hx2)
  clear hx1 hx2 h1 h2
  go_enter Try.func9, Try.ntmps9
  go_wp2
  go_loopw [5] (fun s wr => ∃ k : Nat, k ≤ L.length ∧ s = .int .i64 k ∧ Fr (fun _ => False) w wr) (fun s _ => L.length - (intOf s).toNat)
  case atStart => exact ⟨0, by omega, rfl, Fr.refl _ _⟩
  case round =>
    obtain ⟨k, hk, rfl, hF⟩ := hrel
    have HF := Lib.hid hF
    clear hF
    by_cases hlt : k < L.length
    · obtain ⟨x, hx⟩ : ∃ x, L[k]? = some x := ⟨_, List.getElem?_eq_getElem hlt⟩
      obtain ⟨b1, off1, rfl, _, hb1, hc1⟩ := HX.out.1 k x hx
      obtain ⟨b2, off2, rfl, _, hb2, hc2⟩ := HX.out.2 k x hx
      have hd1 : wr.cell? ⟨b1, off1 + k, none⟩ = some (.int .u64 x) := (HF.out.cell hb1 (fun h => h)).trans hc1
      have hd2 : wr.cell? ⟨b2, off2 + k, none⟩ = some (.int .u64 x) := (HF.out.cell hb2 (fun h => h)).trans hc2
      clear hc1 hc2 hx
      go_wp2
      go_quiet (fail)
      go_wp2
      go_roundw
      case rel => exact ⟨k + 1, by omega, by go_num, HF.out.drewN _⟩
      case measure => simp [intOf]; omega
    · go_wp2
      go_ret
      exact ⟨rfl, HF.out⟩
end Go.Proofs.Ytlhiglhhnjljpaa
