/- 'ambry/ambrylaw14.SthreeScan' returns true, for every input, and leaves its arguments as they were. No condition. -/
import Derived.Test.YtldnacphfoagnaeIn
import Derived.Test.YtldnacphfoagnaeThVic
import Derived.Test.YtldnacphfoagnaeIn
import Derived.Deep.QuietTactic
import Derived.BigQuiet
import Derived.Deep.DeepCutAuto
import Derived.Deep.CutBlock
import Derived.Deep.RegionHeld3
import Derived.WalkKit
import Derived.ProofKit
import Derived.OpenShut
import Derived.ShutString
import Derived.ChangeOld
import Derived.Below
namespace Go.Proofs.Ytldnacphfoagnae.sthreeScan
open Go.ChangeShapes Go.WideShapes Go.ChangeAt Go.RowKit
open Go.ChangeMaps (open_string shut_string)
set_option linter.unusedVariables false

theorem own : ownKnob Try.prog.godebug = none := by kernel_rfl
theorem laidOut : laidOutB Try.prog = true := by kernel_rfl

def sI : Nat → ThS
  | 0 => capT th0 20
  | k + 1 => touchT (touchT (touchT (inT (sI k) k k) k) k) k
def sA : Nat → ThS
  | 0 => (vicT (sI 10)).1
  | i + 1 => inT (sA i) (1000 + (i : Int)) (1000 + (i : Int))
theorem a_v : (vicT (sI 10)).2 = 0 := by kernel_rfl
theorem a_m : measT (sI 10) = 10 := by kernel_rfl
theorem a_l0 : (rowL (vicT (sI 10)).1.L 0).length = 2 := by kernel_rfl
theorem a_l1 : (rowL (vicT (sI 10)).1.L 1).length = 8 := by kernel_rfl
theorem A_all : ((List.range 11).all fun i => inOk (sA i) (1000 + (i : Int)) && (((sA i).L 0).length == i + 2) && (((sA i).L 1).length == 8) && ((sA i).B == []) && ((List.range 10).all fun x => decide (0 ≤ countT (sA i) x))) = true := by kernel_rfl
theorem A_at {i : Nat} (hi : i ≤ 10) : inOk (sA i) (1000 + (i : Int)) = true ∧ ((sA i).L 0).length = i + 2 ∧ ((sA i).L 1).length = 8 ∧ (sA i).B = [] ∧ ∀ x : Nat, x < 10 → 0 ≤ countT (sA i) x := by
  have h := List.all_eq_true.1 A_all i (List.mem_range.2 (by omega))
  simp only [Bool.and_eq_true, beq_iff_eq, List.all_eq_true, decide_eq_true_eq] at h
  obtain ⟨⟨⟨⟨h1, h2⟩, h3⟩, h4⟩, h5⟩ := h
  exact ⟨h1, h2, h3, h4, fun x hx => h5 x (List.mem_range.2 hx)⟩
def fr (g : Nat) : List Int := (List.range g).map fun (j : Nat) => 1000 + (j : Int)
theorem fr_succ (g : Nat) : fr (g + 1) = fr g ++ [1000 + (g : Int)] := by unfold fr; rw [List.range_succ, List.map_append]; rfl
theorem fr_len (g : Nat) : (fr g).length = g := by simp [fr]
theorem mem_fr {g : Nat} {x : Int} (h : x ∈ fr g) : x < 1000 + g := by
  unfold fr at h
  obtain ⟨j, hj, rfl⟩ := List.mem_map.1 h
  have := List.mem_range.1 hj
  omega
theorem cut_snoc (pl : Int) (l : List Int) (x : Int) : cut pl (cut pl l ++ [x]) = cut pl (l ++ [x]) := by
  have e : cut pl l ++ [x] = (l ++ [x]).drop (l.length - pl.toNat) := by
    unfold cut; rw [List.drop_append_of_le_length (by omega)]
  rw [e]
  unfold cut
  rw [List.drop_drop]
  congr 1
  simp
  omega
structure PB (g : Nat) (s : ThS) : Prop where
  L0 : s.L 0 = upA (1000 + g) 10
  L1 : s.L 1 = upA 0 10
  K : ∀ x ∈ s.L 0, s.K x = some (x, 0)
  most : s.most = 20
  mB : s.mB = 20
  B : s.B = cut 20 (fr g)
def tB : ThS := inT (evT (vicT (sA 10)).1 1000) 1010 1010
theorem t_v : (vicT (sA 10)).2 = 1000 := by kernel_rfl
theorem t_d : decide (0 ≤ rowOf 2 (vicT (sA 10)).1.L 1000) = true := by kernel_rfl
theorem t_ok : inOk (evT (vicT (sA 10)).1 1000) 1010 = true := by kernel_rfl
theorem t_m : measT (sA 10) = 12 := by kernel_rfl
theorem t_0 : tB.L 0 = upA 1001 10 := by kernel_rfl
theorem t_1 : tB.L 1 = upA 0 10 := by kernel_rfl
theorem t_K : ((upA 1001 10).all fun x => tB.K x == some (x, 0)) = true := by kernel_rfl
theorem t_most : tB.most = 20 ∧ tB.mB = 20 := ⟨by kernel_rfl, by kernel_rfl⟩
theorem t_B : tB.B = cut 20 (fr 1) := by kernel_rfl
theorem PB_one : PB 1 tB := by
  refine ⟨t_0, t_1, fun x hx => ?_, t_most.1, t_most.2, t_B⟩
  rw [t_0] at hx
  have := List.all_eq_true.1 t_K x hx
  exact eq_of_beq this
theorem PB_vic {g : Nat} {s : ThS} (h : PB g s) : vicT s = (s, 1000 + (g : Int)) := by
  have hl : lastOf (s.L 0) = 1000 + (g : Int) := by rw [h.L0, lastOf_upA]
  have hb : smallB s = true := by
    unfold smallB
    rw [h.most, h.L0, h.L1, len_upA, len_upA]
    kernel_rfl
  have hm : 1000 + (g : Int) ∈ s.L 0 := by rw [h.L0, mem_upA]; omega
  have := vic_small hb (by rw [hl, countT_some (h.K _ hm)]; omega)
  rw [hl] at this
  exact this
theorem PB_step {g : Nat} {s : ThS} (h : PB g s) (hi : ThIn s) (hg : g ≤ 1000) : decide (0 ≤ rowOf 2 s.L (1000 + (g : Int))) = true ∧ inOk (evT s (1000 + (g : Int))) (1000 + ((g + 10 : Nat) : Int)) = true ∧
    PB (g + 1) (inT (evT s (1000 + (g : Int))) (1000 + ((g + 10 : Nat) : Int)) (1000 + ((g + 10 : Nat) : Int))) := by
  have hm : 1000 + (g : Int) ∈ s.L 0 := by rw [h.L0, mem_upA]; omega
  have hn : s.K (1000 + ((g + 10 : Nat) : Int)) = none := by
    rcases e : s.K (1000 + ((g + 10 : Nat) : Int)) with _ | v
    · rfl
    · have := (hi.in_ (1000 + ((g + 10 : Nat) : Int))).1 (by rw [e]; rfl)
      rw [h.L0, h.L1, mem_upA, mem_upA] at this
      omega
  have e1 := evT_0 hm
  rw [numT_some (h.K _ hm)] at e1
  obtain ⟨t, ht⟩ : ∃ t, evT s (1000 + (g : Int)) = t := ⟨_, rfl⟩
  rw [ht] at e1 ⊢
  have t0 : t.L 0 = upA (1000 + (g + 1 : Nat)) 9 := by
    rw [e1]; show (s.L 0).filter _ = _; rw [h.L0, del_upA]
    congr 1
  have t1 : t.L 1 = upA 0 10 := by rw [e1]; show (s.L 1).filter _ = _; rw [h.L1, filter_no (by rw [mem_upA]; omega)]
  have tK : t.K (1000 + ((g + 10 : Nat) : Int)) = none := by rw [e1]; exact (setK_ne (show (1000 + ((g + 10 : Nat) : Int)) ≠ 1000 + (g : Int) by omega)).trans hn
  have tB' : t.B = cut 20 (fr (g + 1)) := by
    rw [e1]; show gadd s.mB s.B (1000 + (g : Int)) = _
    rw [h.mB, h.B]
    unfold gadd
    rw [filter_no (fun q => by have := mem_fr (List.mem_of_mem_drop q); omega), cut_snoc, fr_succ]
  have hnB : (1000 + ((g + 10 : Nat) : Int)) ∉ t.B := fun q => by
    rw [tB'] at q
    have := mem_fr (List.mem_of_mem_drop q); omega
  refine ⟨decide_eq_true ((rowOf2_nn _ _).2 (.inl hm)), inOk_new tK (by omega), ?_⟩
  rw [inT_new tK (by omega), inR_no hnB]
  have n0 : (1000 + ((g + 10 : Nat) : Int)) ∉ t.L 0 := by rw [t0, mem_upA]; omega
  have e0 : (putF (del t.L (1000 + ((g + 10 : Nat) : Int))) 0 (1000 + ((g + 10 : Nat) : Int))) 0 = upA (1000 + (g + 1 : Nat)) 10 := by
    show (1000 + ((g + 10 : Nat) : Int)) :: (t.L 0).filter _ = _
    rw [filter_no n0, t0, show upA (1000 + ((g + 1 : Nat) : Int)) 10 = (1000 + ((g + 1 : Nat) : Int) + (9 : Nat)) :: upA (1000 + ((g + 1 : Nat) : Int)) 9 from rfl]
    congr 1
  refine ⟨e0, ?_, fun x hx => ?_, ?_, ?_, ?_⟩
  · show (t.L 1).filter _ = _
    rw [t1, filter_no (by rw [mem_upA]; omega)]
  · have hx' : x ∈ upA (1000 + ((g + 1 : Nat) : Int)) 10 := e0 ▸ hx
    rw [mem_upA] at hx'
    show setK t.K _ _ x = _
    by_cases q : x = 1000 + ((g + 10 : Nat) : Int)
    · rw [q, setK_same]
    · rw [setK_ne q, e1]
      refine (setK_ne (show x ≠ 1000 + (g : Int) by omega)).trans (h.K x ?_)
      rw [h.L0, mem_upA]; omega
  · rw [e1]; exact h.most
  · rw [e1]; exact h.mB
  · show grem t.B _ = _
    unfold grem
    rw [filter_no hnB, tB']
def SC (i g : Nat) (s : ThS) : Prop := (i ≤ 10 ∧ g = 0 ∧ s = sA i) ∨ (11 ≤ i ∧ i = g + 10 ∧ PB g s)
theorem SC_len {i g : Nat} {s : ThS} (h : SC i g s) : (20 ≤ (s.L 0).length + (s.L 1).length ↔ 10 ≤ i) ∧ (s.L 0).length + (s.L 1).length ≤ 20 := by
  rcases h with ⟨h1, _, rfl⟩ | ⟨h1, _, h⟩
  · obtain ⟨_, h2, h3, _⟩ := A_at h1
    rw [h2, h3]; omega
  · rw [h.L0, h.L1, len_upA, len_upA]; omega
theorem SC_few {i g : Nat} {s : ThS} (h : SC i g s) (hi : i < 10) : inOk s (1000 + (i : Int)) = true ∧ SC (i + 1) g (inT s (1000 + (i : Int)) (1000 + (i : Int))) := by
  rcases h with ⟨h1, h2, rfl⟩ | ⟨h1, _, h⟩
  · exact ⟨(A_at h1).1, .inl ⟨by omega, h2, rfl⟩⟩
  · omega
theorem SC_full {i g : Nat} {s : ThS} (h : SC i g s) (hi : 10 ≤ i) (hn : i ≤ 200) (hin : ThIn s) : (vicT s).2 = 1000 + (g : Int) ∧ decide (0 ≤ rowOf 2 (vicT s).1.L (1000 + (g : Int))) = true ∧ inOk (evT (vicT s).1 (1000 + (g : Int))) (1000 + (i : Int)) = true ∧
    SC (i + 1) (g + 1) (inT (evT (vicT s).1 (1000 + (g : Int))) (1000 + (i : Int)) (1000 + (i : Int))) := by
  rcases h with ⟨h1, rfl, rfl⟩ | ⟨h1, rfl, h⟩
  · obtain rfl : i = 10 := by omega
    exact ⟨t_v, t_d, t_ok, .inr ⟨by omega, by omega, PB_one⟩⟩
  · have e := PB_vic h
    have hs := PB_step h hin (by omega)
    rw [e]
    exact ⟨rfl, hs.1, hs.2.1, .inr ⟨by omega, by omega, hs.2.2⟩⟩
theorem SC_cnt {i g : Nat} {s : ThS} (h : SC i g s) (hin : ThIn s) {x : Nat} (hx : x < 10) : 0 ≤ countT s x := by
  rcases h with ⟨h1, rfl, rfl⟩ | ⟨h1, rfl, h⟩
  · exact (A_at h1).2.2.2.2 x hx
  · exact countT_in hin (.inr (by rw [h.L1, mem_upA]; omega))
theorem SC_B {i g : Nat} {s : ThS} (h : SC i g s) : s.B = cut 20 (fr g) := by
  rcases h with ⟨h1, rfl, rfl⟩ | ⟨h1, rfl, h⟩
  · rw [(A_at h1).2.2.2.1]; rfl
  · exact h.B
theorem cut_len (g : Nat) : (cut 20 (fr g)).length = min g 20 := by unfold cut; rw [List.length_drop, fr_len]; omega
theorem cut_last (g : Nat) : (cut 20 (fr (g + 1)))[min (g + 1) 20 - 1]? = some (1000 + (g : Int)) := by
  unfold cut
  rw [List.getElem?_drop, fr_len]
  unfold fr
  rw [List.getElem?_map, show g + 1 - Int.toNat 20 + (min (g + 1) 20 - 1) = g from by have : Int.toNat 20 = 20 := rfl; omega, List.getElem?_range (by omega)]
  rfl
set_option maxRecDepth 100000 in
set_option maxHeartbeats 4000000 in
theorem walk (w : World) (a0 : Int) (w0 : (Lit.int .i64 a0).wf = true) :
    Calls Try.prog 5 #[.int .i64 a0] w fun e w' => e = .returned (.bool true) ∧ Below w.heap.size w w' := by
  have b0 := bounds_i64 w0
  go_enter Try.func5, Try.ntmps5
  go_wp2_with fail
  refine (shown_any _).mono ?_
  rintro e y1 ⟨rfl, hF⟩
  have HF := Lib.hid (hF.mono (T := From w.heap.size) (fun _ _ h => h.elim))
  clear hF
  go_wp2_with fail
  refine (new_th (w0 := w) HF.out).mono ?_
  rintro e y2 ⟨p, S, rfl, h, _, _⟩
  have H := Lib.hid h
  clear h HF
  go_upto_if 20 with fail
  go_cut [0] (fun s wx => ∃ q : Nat, q ≤ 9223372036854775807 ∧ s = .int .i64 q ∧ y2 = wx)
  case first =>
    by_cases hp : a0 < 0
    · go_wp2
      go_meet
      exact ⟨(-(a0 + 1)).toNat, by omega, by rw [Int.toNat_of_nonneg (by omega)], rfl⟩
    · go_wp2
      go_meet
      exact ⟨a0.toNat, by omega, by rw [Int.toNat_of_nonneg (by omega)], rfl⟩
  case rest =>
    obtain ⟨q0, hq0, rfl, rfl⟩ := hcut
    clear b0
    go_upto_region 7 with fail
    go_cut [0] (fun s wx => ∃ n : Nat, n ≤ 199 ∧ s = .int .i64 n ∧ y2 = wx)
    case first =>
      go_wp2
      go_meet
      exact ⟨q0 % 200, by omega, by simp <;> omega, rfl⟩
    case rest =>
      obtain ⟨n, hn, rfl, rfl⟩ := hcut
      clear hq0
      go_wp2_with fail
      refine (cap_th H.out 20 (by omega)).mono ?_
      rintro e y3 ⟨rfl, h, _⟩
      have H3 := Lib.hid h
      clear h H
      go_wp2_with fail
      go_loopw [5] (fun i wr => ∃ (k : Nat) (S : Nat → Prop), k ≤ 10 ∧ i = .int .i64 k ∧ Sep (TH p (sI k) k 0) w wr S) (fun i _ => 10 - (intOf i).toNat)
      case atStart => exact ⟨0, _, by omega, rfl, H3.out⟩
      case round =>
        clear H3
        obtain ⟨k, S, hk, rfl, h⟩ := hrel
        have Hk := Lib.hid h
        clear h
        by_cases hlt : k < 10
        · go_wp2_with fail
          refine (insert_th Hk.out k k (by omega) (by omega)).mono ?_
          rintro e z1 ⟨rfl, h, _⟩
          have Z1 := Lib.hid h
          clear h
          go_wp2_with fail
          refine (touch_th Z1.out k).mono ?_
          rintro e z2 ⟨rfl, h, _⟩
          have Z2 := Lib.hid h
          clear h
          go_wp2_with fail
          refine (touch_th Z2.out k).mono ?_
          rintro e z3 ⟨rfl, h, _⟩
          have Z3 := Lib.hid h
          clear h
          go_wp2_with fail
          refine (touch_th Z3.out k).mono ?_
          rintro e z4 ⟨rfl, h, _⟩
          have Z4 := Lib.hid h
          clear h
          go_wp2_with fail
          go_roundw
          case rel => exact ⟨k + 1, _, by omega, by go_num, Z4.out⟩
          case measure => simp [intOf]; omega
        · have hk10 : k = 10 := by omega
          have hkd : decide ((k : Int) < 10) = false := decide_eq_false (by omega)
          have HK := Lib.hid (show Sep (TH p (sI 10) 10 0) w wr S from by have := Hk.out; rw [hk10] at this; exact this)
          clear Hk hk10
          obtain ⟨g, hcg, _⟩ := all_th HK.out (by omega)
          have hcd : wr.drew.cell? ⟨p, 0, none⟩ = some (.pointer (some ⟨g, 0, none⟩)) := hcg
          have HM := Lib.hid (show 10 + measT (sI 10) < 1000000 by rw [a_m]; omega)
          have HMM := Lib.hid (show 10 + measT (sI 10) ≤ 1000000 by rw [a_m]; omega)
          go_upto_region 16 with fail
          go_cut [64] (fun c wx => ∃ S, c = .bool false ∧ Sep (TH p (sA 0) 20 0) w wx S)
          case first =>
            go_region_held3 (fun w' => w'.cell? ⟨p, 0, none⟩ = some (.pointer (some ⟨g, 0, none⟩))) (first | exact hcd | exact hc0 | exact hc1 | exact hc2) (first
              | (go_at_call 15; refine (all_th_at X1.out HMM.out hc1 1).mono ?_; rintro e x2 ⟨vb, rfl, hV, h, _, hc2⟩; rw [a_l1] at hV; obtain ⟨a2, cap2, rfl, _⟩ := hV.shape; have X2 := Lib.hid h; clear h hV)
              | (go_at_call 15; refine (all_th_at X0.out HMM.out hc0 0).mono ?_; rintro e x1 ⟨va, rfl, hV, h, _, hc1⟩; rw [a_l0] at hV; obtain ⟨a1, cap1, rfl, _⟩ := hV.shape; have X1 := Lib.hid h; clear h hV)
              | (go_at_call 14; refine (victim_th' (th_drew HK.out) HM.out).mono ?_; rintro e x0 ⟨rfl, h, _, hcz⟩; have hc0 : x0.cell? ⟨p, 0, none⟩ = some (.pointer (some ⟨g, 0, none⟩)) := hcz.trans hcd; rw [a_v]; have X0 := Lib.hid h; clear h hcz))
            go_wp2
            go_meet
            exact ⟨_, rfl, by have := X2.out; rw [a_m] at this; exact this⟩
          case rest =>
            obtain ⟨S1, rfl, h⟩ := hcut
            obtain ⟨wz, rfl⟩ : ∃ wz : World, wz = wc := ⟨_, rfl⟩
            have HZ := Lib.hid h
            clear h hcg hcd
            go_wp2_with fail
            go_loopw [6, 7, 8] (fun go t _ wr => ∃ (i g N : Nat) (s : ThS) (S : Nat → Prop), i ≤ n ∧ N ≤ 100 + 70 * i ∧ g ≤ i ∧ go = .int .i64 g ∧ t = .int .i64 i ∧ Sep (TH p s N g) w wr S ∧ SC i g s) (fun _ t _ _ => n - (intOf t).toNat)
            case atStart => exact ⟨0, 0, 20, _, _, by omega, by omega, by omega, rfl, rfl, HZ.out, .inl ⟨by omega, rfl, rfl⟩⟩
            case round =>
              clear HZ
              obtain ⟨i, gn, N, s, S, hi, hN, hgi, rfl, rfl, h, hS⟩ := hrel
              have Hi := Lib.hid (And.intro h hS)
              have HN := Lib.hid hN
              have hlen := SC_len hS
              clear h hS hN
              by_cases hlt2 : i < n
              · obtain ⟨g, hcg, _⟩ := all_th Hi.out.1 (by have := HN.out; omega)
                have hcd : wr.drew.cell? ⟨p, 0, none⟩ = some (.pointer (some ⟨g, 0, none⟩)) := hcg
                have HNN := Lib.hid (show N ≤ 1000000 by have := HN.out; omega)
                obtain ⟨l0, hl0⟩ : ∃ l, (s.L 0).length = l := ⟨_, rfl⟩
                obtain ⟨l1, hl1⟩ : ∃ l, (s.L 1).length = l := ⟨_, rfl⟩
                rw [hl0, hl1] at hlen
                have HL := Lib.hid (And.intro hl0 (And.intro hl1 hlen))
                clear hl0 hl1 hlen
                go_upto_region 22 with fail
                go_cut [83] (fun c wx => ∃ S, c = .bool (decide (10 ≤ i)) ∧ Sep (TH p s N gn) w wx S)
                case first =>
                  go_region_held3 (fun w' => w'.cell? ⟨p, 0, none⟩ = some (.pointer (some ⟨g, 0, none⟩))) (first | exact hcd | exact hc1 | exact hc2) (first
                    | (go_at_call 15; refine (all_th_at Z1.out HNN.out hc1 1).mono ?_; rintro e z2 ⟨vb, rfl, hV, h, _, hc2⟩; rw [show (rowL s.L 1).length = l1 from HL.out.2.1] at hV; obtain ⟨a2, cap2, rfl, _⟩ := hV.shape; have Z2 := Lib.hid h; clear h hV)
                    | (go_at_call 15; refine (all_th_at (th_drew Hi.out.1) HNN.out hcd 0).mono ?_; rintro e z1 ⟨va, rfl, hV, h, _, hc1⟩; rw [show (rowL s.L 0).length = l0 from HL.out.1] at hV; obtain ⟨a1, cap1, rfl, _⟩ := hV.shape; have Z1 := Lib.hid h; clear h hV))
                  go_wp2
                  go_meet
                  exact ⟨S, congrArg Value.bool (decide_eq_decide.2 (by have := HL.out.2.2; rw [IntKind.wrap_i64]; omega)), Z2.out⟩
                case rest =>
                  obtain ⟨S2, rfl, h⟩ := hcut
                  obtain ⟨wy, rfl⟩ : ∃ wy : World, wy = wc := ⟨_, rfl⟩
                  have Hy := Lib.hid h
                  clear h hcg hcd
                  by_cases h10 : 10 ≤ i
                  · have hin := (th_gd Hi.out.1).in_
                    have hme := meas_le hin
                    have HE := Lib.hid (SC_full Hi.out.2 h10 (by omega) hin)
                    have hme3 : measT s ≤ 60 := by have h1 := HL.out.2.2; have h2 := HL.out.1; have h3 := HL.out.2.1; unfold totT at hme; omega
                    have HM := Lib.hid hme3
                    clear hin hme hme3
                    have h10d : decide (10 ≤ i) = true := decide_eq_true h10
                    rw [h10d]
                    go_wp2_with fail
                    refine (victim_th Hy.out (by have := HM.out; have := HN.out; omega)).mono ?_
                    rintro e z3 ⟨rfl, h, _⟩
                    have Z3 := Lib.hid h
                    clear h
                    rw [HE.out.1]
                    have ha : decide (1000 + (gn : Int) < 1000) = false := decide_eq_false (by omega)
                    go_wp2_with fail
                    refine (evict_th Z3.out (1000 + (gn : Int)) (by have := HM.out; have := HN.out; omega) (by omega)).mono ?_
                    rintro e z4 ⟨rfl, h, _⟩
                    have Z4 := Lib.hid h
                    clear h
                    rw [HE.out.2.1]
                    go_wp2_with fail
                    refine (insert_th Z4.out (1000 + (i : Int)) (1000 + (i : Int)) (by have := HM.out; have := HN.out; omega) (by omega)).mono ?_
                    rintro e z5 ⟨rfl, h, _⟩
                    have Z5 := Lib.hid h
                    clear h
                    rw [HE.out.2.2.1]
                    go_wp2_with fail
                    go_roundw
                    case rel => exact ⟨i + 1, gn + 1, _, _, _, by omega, (by have := HM.out; have := HN.out; omega), by omega, by go_num, by go_num, Z5.out, HE.out.2.2.2⟩
                    case measure => simp [intOf]; omega
                  · have HE := Lib.hid (SC_few Hi.out.2 (by omega))
                    have h10d : decide (10 ≤ i) = false := decide_eq_false h10
                    rw [h10d]
                    go_wp2_with fail
                    refine (insert_th Hy.out (1000 + (i : Int)) (1000 + (i : Int)) (by have := HN.out; omega) (by omega)).mono ?_
                    rintro e z5 ⟨rfl, h, _⟩
                    have Z5 := Lib.hid h
                    clear h
                    rw [HE.out.1]
                    go_wp2_with fail
                    go_roundw
                    case rel => exact ⟨i + 1, gn, _, _, _, by omega, (by have := HN.out; omega), by omega, by go_num, by go_num, Z5.out, HE.out.2⟩
                    case measure => simp [intOf]; omega
              · obtain rfl : i = n := by omega
                clear hlen
                obtain ⟨wy, rfl⟩ : ∃ wy : World, wy = wr := ⟨_, rfl⟩
                have HG := Lib.hid (th_gd Hi.out.1)
                go_wp2_with fail
                go_loopw [9] (fun t wr => ∃ x : Nat, x ≤ 10 ∧ t = .int .i64 x ∧ Sep (TH p s N gn) w wr S) (fun t _ => 10 - (intOf t).toNat)
                case atStart => exact ⟨0, by omega, rfl, Hi.out.1⟩
                case round =>
                  obtain ⟨x, hx, rfl, h⟩ := hrel
                  have HX := Lib.hid h
                  clear h
                  by_cases hx10 : x < 10
                  · have hd : decide (countT s x < 0) = false := decide_eq_false (by have := SC_cnt Hi.out.2 HG.out.in_ hx10; omega)
                    go_wp2_with fail
                    refine (count_th HX.out x).mono ?_
                    rintro e z1 ⟨rfl, rfl⟩
                    go_wp2_with fail
                    go_roundw
                    case rel => exact ⟨x + 1, by omega, by go_num, HX.out⟩
                    case measure => simp [intOf]; omega
                  · have hBl : s.B.length = min gn 20 := by rw [SC_B Hi.out.2, cut_len]
                    have hBu : u64s s.B = u64s (cut 20 (fr gn)) := by rw [SC_B Hi.out.2]
                    have HB := Lib.hid (And.intro hBl hBu)
                    clear hBl hBu
                    have hcase : gn = 0 ∨ (∃ g', gn = g' + 1 ∧ gn ≤ 20) ∨ (∃ g', gn = g' + 1 ∧ 20 < gn) := by
                      rcases gn with _ | g'
                      · exact .inl rfl
                      · by_cases q : g' + 1 ≤ 20
                        · exact .inr (.inl ⟨g', rfl, q⟩)
                        · exact .inr (.inr ⟨g', rfl, by omega⟩)
                    go_wp2_with fail
                    refine (ghosts_th HX.out (by omega)).mono ?_
                    rintro e z1 ⟨v, rfl, hV, h, hF⟩
                    rw [HB.out.1, HB.out.2] at hV
                    have Z1 := Lib.hid h
                    clear h hF
                    rcases hcase with rfl | ⟨g', rfl, hg⟩ | ⟨g', rfl, hg⟩
                    · rw [show min 0 20 = 0 from rfl] at hV
                      obtain ⟨a, cap, rfl, _⟩ := hV.shape
                      clear hV
                      go_wp2
                      go_ret
                      exact ⟨rfl, Z1.out.below⟩
                    · have hm : min (g' + 1) 20 = g' + 1 := by omega
                      have hl := cut_last g'
                      have hcl := cut_len (g' + 1)
                      rw [hm] at hV hl hcl
                      obtain ⟨b, off, cap, rfl, _, _, _, hx2, _⟩ := Sl.pos hV (by omega)
                      have hx3 := hx2 g' (by unfold u64s; rw [List.length_map, hcl]; omega)
                      unfold u64s at hx3
                      rw [Nat.add_sub_cancel] at hl
                      rw [List.getElem?_map, hl] at hx3
                      have hx4 : z1.cell? ⟨b, off + g', none⟩ = some (.int .u64 (1000 + (g' : Int))) := hx3
                      have hg20 : (g' : Int) + 1 ≤ 20 := by omega
                      clear hV hx2 hx3 hl hcl hm
                      go_wp2_with fail
                      go_ret
                      refine ⟨congrArg (fun b => Ending.returned (Value.bool b)) ?_, Z1.out.below⟩
                      first | rfl | (rw [Bool.or_eq_true]; right; rw [beq_iff_eq]; omega)
                    · have hm : min (g' + 1) 20 = 20 := by omega
                      have hl := cut_last g'
                      have hcl := cut_len (g' + 1)
                      rw [hm] at hV hl hcl
                      obtain ⟨b, off, cap, rfl, _, _, _, hx2, _⟩ := Sl.pos hV (by omega)
                      have hx3 := hx2 19 (by unfold u64s; rw [List.length_map, hcl]; omega)
                      unfold u64s at hx3
                      rw [List.getElem?_map, hl] at hx3
                      have hx4 : z1.cell? ⟨b, off + 19, none⟩ = some (.int .u64 (1000 + (g' : Int))) := hx3
                      have hg20 : (20 : Int) < (g' : Int) + 1 := by omega
                      clear hV hx2 hx3 hl hcl hm
                      go_wp2_with fail
                      go_ret
                      refine ⟨congrArg (fun b => Ending.returned (Value.bool b)) ?_, Z1.out.below⟩
                      first | rfl | (rw [Bool.or_eq_true]; right; rw [beq_iff_eq]; omega)

set_option maxRecDepth 100000 in
theorem lifted (os : Os) (started : os.Started) (H : Type) (enc : TypeId × Value → H) :
    ReturnsInHanded {} Try.checked os 5 .any (Rows.sthreeScanSpec.pre6 enc Try.prog Try.f5 Rows.sthreeScanRow.domain false) (Rows.sthreeScanSpec.post enc Try.prog Try.f5 false true false false) := by
  refine returnsInHanded_of_change (C := Try.checked) own started (by kernel_rfl) Try.func5
    (ChangeSpec.witness6 (enc := enc) (C := Try.checked) false ⟨#[], #[.int .i64 0], []⟩ 8 (by kernel_rfl) (by kernel_rfl) (by kernel_rfl) (by kernel_rfl)) ?_
  intro W base args ds gs before hval0 hW hcnd _
  have hval : ∀ (j : Nat) t v, Try.f5.params[j]? = some t → args[j]? = some v → Value.okWide Try.prog W .any base t v := hval0
  have hW' := hW
  obtain ⟨p, q, hA0, hV, rfl, hfz, hnd⟩ := hW
  have hA : DataW.TrodAll enc Try.prog W 0 (fun _ => true) true Try.f5.params.toList args.toList ds p := hA0
  rw [Try.params5] at hA hval
  obtain ⟨v0, vs0, d0, ds0, p0, q0, hargs, rfl, rfl, h0, r0⟩ := trodAll_cons hA
  obtain ⟨rfl, rfl, rfl⟩ := trodAll_nil r0
  obtain rfl : args = #[v0] := by cases args; simp_all
  obtain ⟨rfl, rfl⟩ := trodVars_none hV
  obtain ⟨a0, rfl, rfl, rfl, w0⟩ := open_int Try.underlying3 (hval 0 3 v0 rfl rfl) h0
  clear hA0 hval0
  refine (walk W a0 w0).mono fun e W' ⟨he, bel⟩ => ?_
  subst he
  exact ⟨_, rfl, _, _, _, [], _, [], hW', trodAll_mk1 (shut_bool Try.underlying4 _), (trodAll_cons_mk (shut_int Try.underlying3 w0) trodAll_mk0), rfl, bel.frame _, fun h => by cases h⟩

theorem over : Rows.sthreeScanRow.holds Try.pinned (OpenSpec.ofChange Rows.sthreeScanSpec) :=
  OpenClaim.holds_of_wide 5 Try.f5 rfl rfl rfl rfl rfl rfl rfl ⟨rfl, rfl, rfl, rfl, rfl⟩ rfl rfl rfl rfl rfl (by kernel_rfl) Try.func5 (by kernel_rfl)
    (of_decide_eq_true (by kernel_rfl)) (by unfold Func.isWrapper; first | (rw [if_pos (by decide +kernel)]; kernel_rfl) | (rw [if_neg (by decide +kernel)]; exact ⟨rfl, rfl⟩))
    (fun os started H enc _ => lifted os started H enc)

theorem proved : Rows.SthreeScanSaid := over
#print axioms proved
end Go.Proofs.Ytldnacphfoagnae.sthreeScan
