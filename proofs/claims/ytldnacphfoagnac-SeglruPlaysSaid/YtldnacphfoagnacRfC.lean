/- The reference of layer 10 (rows): Row and Same. -/
import Derived.Test.YtldnacphfoagnacRfB
namespace Go.Proofs.Ytldnacphfoagnac
open Go.RowKit
set_option linter.unusedVariables false
theorem rowOf_first {n : Nat} {L : Nat → List Int} {id : Int} {i : Nat} (hi : i < n) (h : id ∈ L i) (hno : ∀ s, s < i → id ∉ L s) : rowOf n L id = i := by
  unfold rowOf
  rw [List.find?_range_eq_some.2 ⟨decide_eq_true h, List.mem_range.2 hi, fun j hj => by simpa using hno j hj⟩]
set_option maxHeartbeats 1000000 in
theorem rf_row (S : Nat → Prop) (r n : Nat) (L : Nat → List Int) (id : Int) (w : World) (h : Rf w S r n L) (hN : ∀ k, (L k).length ≤ 1000000) :
    Calls Try.prog 35 #[.pointer (some ⟨r, 0, none⟩), .int .i64 id] w fun e w' => e = .returned (.int .i64 (rowOf n L id)) ∧ w = w' := by
  obtain ⟨lb, cs, h⟩ := h
  obtain ⟨c0, _, _, _⟩ := h.cell
  have h8 := h.h8
  have H := Lib.hid (And.intro h hN)
  obtain ⟨rv, hrv⟩ : ∃ rv, rowOf n L id = rv := ⟨_, rfl⟩
  rw [hrv]
  have HR := Lib.hid hrv
  clear h hN hrv
  go_enter Try.func35, Try.ntmps35
  go_wp2_with fail
  go_loopw [5, 6] (fun s _ wr => ∃ i : Nat, i ≤ n ∧ s = .int .i64 i ∧ (∀ s, s < i → id ∉ L s) ∧ wr = w) (fun s _ _ => n - (intOf s).toNat)
  case atStart => exact ⟨0, by omega, rfl, fun s hs => absurd hs (Nat.not_lt_zero s), rfl⟩
  case round =>
    obtain ⟨i, hi, rfl, hno, rfl⟩ := hrel
    have HN := Lib.hid hno
    clear hno
    by_cases hlt : i < n
    · have hin : (i : Int) < n := by omega
      obtain ⟨a, cap, hc, hcap, hs, _⟩ := H.out.1.row hlt
      obtain ⟨l, hl⟩ : ∃ l, L i = l := ⟨_, rfl⟩
      rw [hl] at hc hcap hs
      have hll : l.length ≤ 1000000 := hl ▸ H.out.2 i
      have HL := Lib.hid (And.intro hl hs)
      clear hl hs
      go_wp2_with fail
      obtain ⟨wz, rfl⟩ : ∃ wz : World, wz = wr := ⟨_, rfl⟩
      go_loopw [6] (fun s wr => ∃ k : Nat, k ≤ l.length ∧ s = .int .i64 k ∧ id ∉ l.take k ∧ wr = wz) (fun s _ => l.length - (intOf s).toNat)
      case atStart => exact ⟨0, by omega, rfl, by simp, rfl⟩
      case round =>
        obtain ⟨k, hk, rfl, hnk, rfl⟩ := hrel
        have HK := Lib.hid hnk
        clear hnk
        by_cases hkl : k < l.length
        · obtain ⟨x, hx⟩ : ∃ x, l[k]? = some x := ⟨_, List.getElem?_eq_getElem hkl⟩
          obtain ⟨a', cap', hv, hat⟩ := sl_at HL.out.2
          simp at hv
          obtain ⟨rfl, rfl⟩ := hv
          obtain ⟨b, off, rfl, _, _, hcx, _⟩ := hat k x hx
          have HX := Lib.hid hx
          clear hx hat
          by_cases he : x = id
          · subst he
            have hm : rv = i := HR.out.symm.trans (rowOf_first hlt (by rw [HL.out.1]; exact List.mem_of_getElem? HX.out) HN.out)
            subst hm
            go_wp2
            go_ret
            exact ⟨rfl, rfl⟩
          · have hb : (x == id) = false := by simpa using he
            have HE := Lib.hid he
            clear he
            go_wp2_with fail
            go_roundw
            case rel =>
              refine ⟨k + 1, by omega, by go_num, ?_, trivial⟩
              rw [List.take_succ_eq_append_getElem hkl, List.mem_append]
              intro q
              rcases q with q | q
              · exact HK.out q
              · simp at q
                exact HE.out (by rw [q]; exact ((List.getElem?_eq_some_iff.1 HX.out).2).symm)
            case measure => simp [intOf]; omega
        · go_wp2_with fail
          go_roundw
          case rel =>
            refine ⟨i + 1, by omega, by go_num, fun s hs => ?_, trivial⟩
            by_cases e : s = i
            · rw [e, HL.out.1]
              have := HK.out
              rw [List.take_of_length_le (by omega)] at this
              exact this
            · exact HN.out s (by omega)
          case measure => simp [intOf]; omega
    · have hin : i = n := by omega
      subst hin
      have hm : rv = -1 := HR.out.symm.trans (rowOf_none HN.out)
      subst hm
      go_wp2
      go_ret
      exact ⟨rfl, rfl⟩
set_option maxHeartbeats 1000000 in
/-- Two lists that read alike. -/
theorem same_ints (S1 S2 : Nat → Prop) (v1 v2 : Value) (l : List Int) (w : World) (h1 : Sl w S1 3 1 v1 l.length (l.map (Value.int .i64))) (h2 : Sl w S2 3 1 v2 l.length (l.map (Value.int .i64))) (hN : l.length ≤ 1000000) :
    Calls Try.prog 24 #[v1, v2] w fun e w' => e = .returned (.bool true) ∧ Fr (fun _ => False) w w' := by
  obtain ⟨a1, cap1, rfl, hx1⟩ := sl_at h1
  obtain ⟨a2, cap2, rfl, hx2⟩ := sl_at h2
  have HX := Lib.hid (And.intro hx1 hx2)
  clear hx1 hx2 h1 h2
  go_enter Try.func24, Try.ntmps24
  go_wp2
  go_loopw [5] (fun s wr => ∃ k : Nat, k ≤ l.length ∧ s = .int .i64 k ∧ Fr (fun _ => False) w wr) (fun s _ => l.length - (intOf s).toNat)
  case atStart => exact ⟨0, by omega, rfl, Fr.refl _ _⟩
  case round =>
    obtain ⟨k, hk, rfl, hF⟩ := hrel
    have HF := Lib.hid hF
    clear hF
    by_cases hlt : k < l.length
    · obtain ⟨x, hx⟩ : ∃ x, l[k]? = some x := ⟨_, List.getElem?_eq_getElem hlt⟩
      obtain ⟨b1, off1, rfl, hb1, _, hc1, _⟩ := HX.out.1 k x hx
      obtain ⟨b2, off2, rfl, hb2, _, hc2, _⟩ := HX.out.2 k x hx
      have hd1 : wr.cell? ⟨b1, off1 + k, none⟩ = some (.int .i64 x) := (HF.out.cell hb1 (fun h => h)).trans hc1
      have hd2 : wr.cell? ⟨b2, off2 + k, none⟩ = some (.int .i64 x) := (HF.out.cell hb2 (fun h => h)).trans hc2
      clear hc1 hc2 hx
      go_wp2
      go_quiet (fail)
      go_wp2
      go_roundw
      case rel => exact ⟨k + 1, by omega, by go_num, HF.out.drewN _⟩
      case measure => simp [intOf]; omega
    · go_wp2
      go_ret
      exact ⟨rfl, HF.out⟩
end Go.Proofs.Ytldnacphfoagnac
