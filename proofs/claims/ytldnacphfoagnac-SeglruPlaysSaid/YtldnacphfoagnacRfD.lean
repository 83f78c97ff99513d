/- The reference of layer 10 (rows): Take. -/
import Derived.Test.YtldnacphfoagnacRfC
namespace Go.Proofs.Ytldnacphfoagnac
open Go.RowKit
set_option linter.unusedVariables false
theorem filter_takeI {L : List Int} {h x : Int} {k : Nat} (hx : L[k]? = some x) : (L.take (k + 1)).filter (· != h) = (L.take k).filter (· != h) ++ if x = h then [] else [x] := by
  obtain ⟨hk, rfl⟩ := List.getElem?_eq_some_iff.1 hx
  rw [List.take_succ_eq_append_getElem hk, List.filter_append]
  congr 1
  by_cases e : L[k] = h <;> simp [e]
def Dsj (n : Nat) (L : Nat → List Int) : Prop := ∀ a b, a < n → b < n → ∀ x, x ∈ L a → x ∈ L b → b = a
set_option maxHeartbeats 2000000 in
theorem rf_take (S : Nat → Prop) (r n : Nat) (L : Nat → List Int) (id : Int) (w : World) (h : Rf w S r n L) (hN : ∀ k, (L k).length ≤ 1000000) (hd : Dsj n L) :
    Calls Try.prog 38 #[.pointer (some ⟨r, 0, none⟩), .int .i64 id] w fun e w' => e = .returned (.bool (decide (0 ≤ rowOf n L id))) ∧ Rf w' (grow S w w') r n (del L id) ∧ Fr S w w' := by
  obtain ⟨i0, hi, hz0, hz1, hz2⟩ := info_parts info_i64
  have HROW := Lib.hid (rf_row S r n L id w h hN)
  have HH := Lib.hid h
  by_cases hin : ∃ q, q < n ∧ id ∈ L q
  · obtain ⟨q, hq, hid⟩ := hin
    have hro : rowOf n L id = q := rowOf_some hq hid (fun s hs hx => hd q s hq hs id hid hx)
    have hdel : del L id = fun k => if k = q then (L q).filter (· != id) else L k := by
      funext k
      show (L k).filter (· != id) = _
      split
      · rename_i e; rw [e]
      · rename_i e
        refine filter_no fun hx => ?_
        by_cases hk : k < n
        · exact e (hd q k hq hk id hid hx)
        · obtain ⟨lb, cs, hO⟩ := h
          rw [hO.hz k (by omega)] at hx; cases hx
    obtain ⟨lb, cs, h⟩ := h
    obtain ⟨c0, _, hrb, hlb⟩ := h.cell
    obtain ⟨a, cap, hc, hcap, hs, hfq⟩ := h.row hq
    have h8 := h.h8
    obtain ⟨l, hl⟩ : ∃ l, L q = l := ⟨_, rfl⟩
    have hll : l.length ≤ 1000000 := hl ▸ hN q
    rw [hro] at HROW ⊢
    rw [hl] at hc hcap hs hdel
    have hdt : decide ((0 : Int) ≤ (q : Int)) = true := decide_eq_true (by omega)
    have hdf : decide ((q : Int) < 0) = false := decide_eq_false (by omega)
    rw [hdt, hdel]
    have hqn : (q : Int) < n := by omega
    have HL := Lib.hid (And.intro h (And.intro hs (And.intro hc (And.intro c0 hfq))))
    clear h hs hdel hro hid hd hN hc c0 hdt hfq
    go_enter Try.func38, Try.ntmps38
    go_wp2_with fail
    refine HROW.out.mono ?_
    rintro e w1 ⟨rfl, rfl⟩
    go_wp2_with fail
    go_loopw [6, 7] (fun s i wr => ∃ k : Nat, k ≤ l.length ∧ i = .int .i64 k ∧ Sl wr (fun b => w.heap.size ≤ b) 3 1 s ((l.take k).filter (· != id)).length (((l.take k).filter (· != id)).map (Value.int .i64)) ∧ Fr (fun b => w.heap.size ≤ b) w wr) (fun _ i _ => l.length - (intOf i).toNat)
    case atStart => exact ⟨0, by omega, rfl, Sl.nil _ _ _ _, Fr.refl _ _⟩
    case round =>
      obtain ⟨k, hk, rfl, hsl, hfr⟩ := hrel
      have c1 : wr.cell? ⟨r, 0, none⟩ = some (.slice (some ⟨lb, 0, none⟩) n n) := (hfr.cell (p := ⟨r, 0, none⟩) hrb (by simp; omega)).trans HL.out.2.2.2.1
      have c2 : wr.cell? ⟨lb, q, none⟩ = some (.slice a l.length cap) := (hfr.cell (p := ⟨lb, q, none⟩) hlb (by simp; omega)).trans HL.out.2.2.1
      have hfl : ((l.take k).filter (· != id)).length ≤ k := Nat.le_trans (List.length_filter_le _ _) (List.length_take_le _ _)
      have HS := Lib.hid (And.intro hsl hfr)
      obtain ⟨sa, scap, rfl, _⟩ := hsl.shape
      clear hsl
      by_cases hlt : k < l.length
      · obtain ⟨x, hxk⟩ : ∃ x, l[k]? = some x := ⟨_, List.getElem?_eq_getElem hlt⟩
        obtain ⟨a', cap', hv, hat⟩ := sl_at HL.out.2.1
        simp at hv
        obtain ⟨rfl, rfl⟩ := hv
        obtain ⟨b, off, rfl, hbl, _, hcx, _⟩ := hat k x hxk
        have hc' : wr.cell? ⟨b, off + k, none⟩ = some (.int .i64 x) := (hfr.cell (p := ⟨b, off + k, none⟩) hbl (by simp; omega)).trans hcx
        have HT := Lib.hid (filter_takeI (h := id) hxk)
        clear hcx hxk hfr hat
        by_cases he : x = id
        · subst he
          go_wp2
          go_roundw
          case rel =>
            refine ⟨k + 1, by omega, by go_num, ?_, HS.out.2⟩
            rw [HT.out, if_pos rfl, List.append_nil]; exact HS.out.1
          case measure => simp [intOf]; omega
        · have hb : (x != id) = true := by simpa using he
          go_wp2_with (at_builtin; refine wpList_append_sl (S := fun b => w.heap.size ≤ b) rfl _ _ 28 rfl 3 i0 (.int .i64 0) 1 8 Try.underlying28 hi hz0 hz1 hz2 rfl (by decide) _ _ _ rfl (HS.out.1.alloc _) ⟨_, 0, none⟩ 1 1 [.int .i64 x] rfl rfl (cell_one_at _ _ _ (by simp)) (ints_oneCell .i64 [x]) (by unfold maxLen; omega) (by omega) ?_; intro v1 q5 hs1 hf1; have HS1 := Lib.hid (And.intro hs1 hf1); clear hs1 hf1)
          go_roundw
          case rel =>
            obtain ⟨hs1, hf1⟩ := HS1.out
            have hsz := HS.out.2.size
            refine ⟨k + 1, by omega, by go_num, ?_, (HS.out.2.alloc _).trans hf1.arr (fun _ _ h => h)⟩
            rw [HT.out, if_neg he]
            have h2 := hs1.mono (S' := fun b => w.heap.size ≤ b) (fun b _ hb => hb.elim (fun q => q) (fun ⟨q, _⟩ => by simp at q; omega))
            simpa using h2
          case measure => simp [intOf]; omega
      · have hg : (l.take k).filter (· != id) = l.filter (· != id) := by rw [List.take_of_length_le (by omega)]
        have hf2 : wr.frozen? ⟨lb, q, none⟩ = false := (hfr.fro (p := ⟨lb, q, none⟩) hlb (by simp; omega)).trans HL.out.2.2.2.2
        have hput := HL.out.1.put (v := .slice sa ((l.take k).filter (· != id)).length scap) HS.out.2 hq HS.out.1
        rw [hg] at hput
        have HP := Lib.hid hput
        clear hfr hput
        go_wp2
        go_ret
        exact ⟨rfl, HP.out⟩
  · have hno : ∀ s, s < n → id ∉ L s := fun s hs hx => hin ⟨s, hs, hx⟩
    have hro : rowOf n L id = -1 := rowOf_none hno
    have hdel : del L id = L := del_none fun s hx => by
      by_cases hk : s < n
      · exact hno s hk hx
      · obtain ⟨lb, cs, hO⟩ := h
        rw [hO.hz s (by omega)] at hx; cases hx
    rw [hro] at HROW ⊢
    rw [hdel]
    clear hno hro hdel hin hd hN h
    go_enter Try.func38, Try.ntmps38
    go_wp2_with fail
    refine HROW.out.mono ?_
    rintro e w1 ⟨rfl, rfl⟩
    go_wp2
    go_ret
    exact ⟨rfl, HH.out.mono fun b _ q => Or.inl q, Fr.refl _ _⟩
end Go.Proofs.Ytldnacphfoagnac
