/- The functions of layer 11 (ghost), made new and listed. -/
import Derived.Test.YtlhiglhhnjljpaaRows
import Derived.Test.YtlhiglhhnjljpaaSl
import Derived.Test.YtlhiglhhnjljpaaGhostSpec
import Derived.Test.YtlhiglhhnjljpaaQuiet
import Derived.Test.YtlhiglhhnjljpaaGhost
import Derived.Test.YtlhiglhhnjljpaaGhost2
import Derived.WalkKit
import Derived.WalkSpells
import Derived.WalkLawsBesides
import Derived.StillTailTactics
import Derived.Deep.QuietTactic
import Derived.BigQuiet
import Derived.Deep.DeepCutAuto
namespace Go.Proofs.Ytlhiglhhnjljpaa
open Go.RowKit
set_option linter.unusedVariables false

theorem live_snoc (l : List (Int × Value)) (h : Int) : ∀ (r : List Int) (f : Int), live l (r ++ [h]) f = live l r f ++ if turnIs (aget l h) (f + r.length) then [h] else []
  | [], f => by simp [live]
  | x :: r, f => by
    have ih := live_snoc l h r (f + 1)
    have e : f + ((x :: r).length : Int) = f + 1 + (r.length : Int) := by simp; omega
    rw [e]
    show live l (x :: (r ++ [h])) f = _
    unfold live
    rw [ih]
    split <;> rfl
theorem live_take (l : List (Int × Value)) (row : List Int) (f : Int) (k : Nat) (h : k < row.length) : live l (row.take (k + 1)) f = live l (row.take k) f ++ if turnIs (aget l row[k]) (f + k) then [row[k]] else [] := by
  rw [List.take_succ_eq_append_getElem h, live_snoc, List.length_take, Nat.min_eq_left (by omega)]

set_option maxHeartbeats 400000 in
theorem new_at (n : Int) (w : World) :
    Calls Try.prog 21 #[.int .i64 n] w fun e w' => ∃ g, e = .returned (.pointer (some ⟨g, 0, none⟩)) ∧ GhostAt w' (fun b => w.heap.size ≤ b ∧ b < w'.heap.size) g (max 0 n) [] 0 ∧ Fr (fun _ => False) w w' := by
  have hmm := @run_makeMap Try.prog
  have fin : ∀ (u : Int), u = max 0 n → GhostAt ((w.alloc (.map #[] 0)).alloc (.cells #[.int .i64 u, .map (some w.heap.size), .slice none 0 0, .int .i64 0] 81))
      (fun b => w.heap.size ≤ b ∧ b < ((w.alloc (.map #[] 0)).alloc (.cells #[.int .i64 u, .map (some w.heap.size), .slice none 0 0, .int .i64 0] 81)).heap.size) (w.heap.size + 1) (max 0 n) [] 0 := by
    intro u hu
    subst hu
    have h1 := heap_alloc_new (w.alloc (.map #[] 0)) (.cells #[.int .i64 (max 0 n), .map (some w.heap.size), .slice none 0 0, .int .i64 0] 81)
    rw [World.size_alloc] at h1
    refine ⟨[], [], 0, ⟨w.heap.size, .slice none 0 0, .map #[] 0, by simp, by simp <;> omega, h1, ?_, mapBlk_nil _, Sl.nil _ _ _ _, fun k v h => by cases h⟩, ⟨List.nodup_nil, fun h v hv => by cases hv⟩, rfl, by omega, by omega, by simp, by simp; omega⟩
    rw [heap_alloc_old _ (by simp), heap_alloc_new]
  have HF := Lib.hid fin
  clear fin
  rcases Int.lt_trichotomy n 0 with hn | hn | hn
  all_goals
    first | subst hn | skip
    go_enter Try.func21, Try.ntmps21
    go_wp2
    go_ret
    exact ⟨_, rfl, HF.out _ (by omega), ((Fr.refl _ w).alloc _).alloc _⟩

/-- Where the row of a ghost lies, and what its cells hold. -/
theorem all_row {w : World} {S : Nat → Prop} {T : TypeId} {v : Value} {row : List Int} (hsl : Sl w S T 1 v row.length (u64s row)) :
    ∃ a cap, v = .slice a row.length cap ∧ ∀ k (h : k < row.length), ∃ b off, a = some ⟨b, off, none⟩ ∧ b < w.heap.size ∧ w.cell? ⟨b, off + k, none⟩ = some (.int .u64 row[k]) := by
  obtain ⟨a, cap, rfl, _⟩ := hsl.shape
  refine ⟨a, cap, rfl, fun k h => ?_⟩
  obtain ⟨b, off, cap', hv, hS, hb, _, hx, _⟩ := hsl.pos (by omega)
  simp at hv
  exact ⟨b, off, hv.1, hb, by rw [hx k (by simpa [u64s] using h)]; simp [u64s, h]⟩

set_option maxHeartbeats 1000000 in
theorem all_at (S : Nat → Prop) (g : Nat) (most : Int) (L : List Int) (N : Nat) (w : World) (hG : GhostAt w S g most L N) (hN : N ≤ 1000000) :
    Calls Try.prog 31 #[.pointer (some ⟨g, 0, none⟩)] w fun e w' => ∃ v, e = .returned v ∧ Sl w' (fun b => w.heap.size ≤ b) 29 1 v L.length (u64s L) ∧ Fr (fun b => w.heap.size ≤ b) w w' := by
  obtain ⟨l, row, first, ⟨m, rv, o, hSg, hSm, hg, hmo, hmb, hsl, hvs⟩, hT, hL, hm0, hf0, hfN, hLm⟩ := hG
  obtain ⟨i0, hi, hz0, hz1, hz2⟩ := info_parts info_u64
  obtain ⟨ra, rcap, rfl, hrow⟩ := all_row hsl
  have hgl := lt_of_heap hg
  have hml := lt_of_heap hmo
  have c1 := cell_of_heap hg 1
  have c2 := cell_of_heap hg 2
  have c3 := cell_of_heap hg 3
  simp at c1 c2 c3
  have hr : row.length ≤ 1000000 := by omega
  have hf1 : first ≤ 1000000 := by omega
  have HL := Lib.hid hL
  have HC := Lib.hid (And.intro c1 (And.intro c2 c3))
  have HV := Lib.hid hvs
  have HR := Lib.hid hrow
  have HM := Lib.hid hmo
  clear hL hvs hrow hsl hT hg hfN hLm c1 c3 hmo
  go_enter Try.func31, Try.ntmps31
  go_wp2
  go_loopw [3, 13] (fun s i wr => ∃ k : Nat, k ≤ row.length ∧ i = .int .i64 k ∧ Sl wr (fun b => w.heap.size ≤ b) 29 1 s (live l (row.take k) first).length (u64s (live l (row.take k) first)) ∧ Fr (fun b => w.heap.size ≤ b) w wr) (fun _ i _ => row.length - (intOf i).toNat)
  case atStart => exact ⟨0, by omega, rfl, Sl.nil _ _ _ _, Fr.refl _ _⟩
  case round =>
    obtain ⟨k, hk, rfl, hs, hfr⟩ := hrel
    by_cases hlt : k < row.length
    · obtain ⟨b, off, rfl, hbl, hc⟩ := HR.out k hlt
      have hc' : wr.cell? ⟨b, off + k, none⟩ = some (.int .u64 row[k]) := (hfr.cell hbl (by simp; omega)).trans hc
      have c1 : wr.cell? ⟨g, 1, none⟩ = _ := (hfr.cell hgl (by simp; omega)).trans HC.out.1
      have c3 : wr.cell? ⟨g, 3, none⟩ = _ := (hfr.cell hgl (by simp; omega)).trans HC.out.2.2
      have hmo : wr.heap[m]? = some o := (hfr.block m hml (by simp; omega)).trans HM.out
      have hlv := live_take l row first k hlt
      have hll : (live l (row.take k) first).length ≤ k := Nat.le_trans (live_le _ _ _) (List.length_take_le _ _)
      obtain ⟨x, hx⟩ : ∃ x, row[k] = x := ⟨_, rfl⟩
      rw [hx] at hc' hlv
      have HLV := Lib.hid hlv
      have HS := Lib.hid hs
      have HFR := Lib.hid hfr
      clear hc hlv hs hfr hx
      rcases hag : aget l x with _ | v
      · go_wp2_with (first
          | (at_lookup; refine wpList_lookupOk_imap rfl _ _ 79 rfl 29 3 .u64 Try.underlying79 Try.underlying29 _ (zero_i64 _) m rfl o l hmo hmb x rfl ?_))
        go_roundw
        case rel =>
          have e : live l (row.take (k + 1)) first = live l (row.take k) first := by rw [HLV.out, hag]; simp [turnIs]
          refine ⟨k + 1, by omega, by go_num, ?_, HFR.out⟩
          rw [e]; exact HS.out
        case measure => simp [intOf]; omega
      · obtain ⟨n, rfl⟩ := HV.out x v hag
        by_cases hn : n = first + k
        · subst hn
          unfold tv at hag
          go_wp2_with (first
            | (at_lookup; refine wpList_lookupOk_imap rfl _ _ 79 rfl 29 3 .u64 Try.underlying79 Try.underlying29 _ (zero_i64 _) m rfl o l hmo hmb x rfl ?_)
            | (at_builtin; go_must (refine wpList_append_sl (S := fun b => w.heap.size ≤ b) rfl _ _ 32 rfl 29 i0 (.int .u64 0) 1 8 Try.underlying32 hi hz0 hz1 hz2 rfl (by decide) _ _ _ rfl (HS.out.alloc _) ⟨_, 0, none⟩ 1 1 [.int .u64 x] rfl rfl (cell_one_at _ _ _ (by simp)) (ints_oneCell .u64 [x]) (by unfold maxLen; omega) (by omega) ?_); intro v1 w1 hs1 hf1; have HS1 := Lib.hid (And.intro hs1 hf1); clear hs1 hf1))
          go_roundw
          case rel =>
            obtain ⟨hs1, hf1⟩ := HS1.out
            have e : live l (row.take (k + 1)) first = live l (row.take k) first ++ [x] := by rw [HLV.out, hag]; simp [turnIs]
            have hsz := HFR.out.size
            refine ⟨k + 1, by omega, by go_num, ?_, ?_⟩
            · rw [e]
              have := hs1.mono (S' := fun b => w.heap.size ≤ b) (fun b _ hb => hb.elim id (fun ⟨q1, _⟩ => by simp at q1; omega))
              simpa [u64s] using this
            · exact (HFR.out.alloc _).trans hf1.arr (fun _ _ h => h)
          case measure => simp [intOf]; omega
        · have hn2 : (n == first + k) = false := by simpa using hn
          unfold tv at hag
          go_wp2_with (first
            | (at_lookup; refine wpList_lookupOk_imap rfl _ _ 79 rfl 29 3 .u64 Try.underlying79 Try.underlying29 _ (zero_i64 _) m rfl o l hmo hmb x rfl ?_))
          go_roundw
          case rel =>
            have e : live l (row.take (k + 1)) first = live l (row.take k) first := by rw [HLV.out, hag, if_neg (by rw [turnIs_iff]; simp [tv]; exact hn)]; simp
            refine ⟨k + 1, by omega, by go_num, ?_, HFR.out⟩
            rw [e]; exact HS.out
          case measure => simp [intOf]; omega
    · have e : live l (row.take k) first = L := by rw [List.take_of_length_le (by omega)]; exact HL.out
      have HS := Lib.hid hs
      have HFR := Lib.hid hfr
      have HE := Lib.hid e
      clear hs hfr e
      go_wp2
      go_ret
      exact ⟨_, rfl, by rw [← HE.out]; exact HS.out, HFR.out⟩
end Go.Proofs.Ytlhiglhhnjljpaa
