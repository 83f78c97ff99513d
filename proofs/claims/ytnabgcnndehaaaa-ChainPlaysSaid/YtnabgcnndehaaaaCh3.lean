/- Layer 9 (chain): what each call does, three: New, Set. -/
import Derived.Test.YtnabgcnndehaaaaCh2
import Derived.Laws.MakeOwn
namespace Go.Proofs.Ytnabgcnndehaaaa
open Go.RowKit
set_option linter.unusedVariables false
theorem info_slent : (Try.prog.info? 59).map (fun i => (i.zero, i.size, i.bytes)) = some (some (.pointer none), 1, 8) := by kernel_rfl
theorem run_make_ents (n : Nat) (hn : n ≤ 4194304) (w : World) : (Instr.makeSlice 56 (.int .i64 (n : Int)) (.int .i64 (n : Int))).run Try.prog w = .ok (.slice (some ⟨w.heap.size, 0, none⟩) n n) (w.alloc (.cells (List.replicate n (Value.pointer none)).toArray 59)) := by
  obtain ⟨i, hi, hz0, hz1, hz2⟩ := info_parts info_slent
  have hb : (i.bytes : Int) * (n : Int) ≤ 281474976710656 := by rw [hz2]; omega
  have hr := run_make (P := Try.prog) w 56 59 i _ Try.underlying56 hi hz0 .i64 .i64 n n (by omega) (by omega) hb (by omega)
  simp only [Int.toNat_natCast] at hr
  rw [hr, hz1]
  have : madeCells (Value.pointer none).cells (n * 1) = (List.replicate n (Value.pointer none)).toArray := by
    apply Array.toList_inj.1
    show (madeCells #[Value.pointer none] (n * 1)).toList = _
    rw [toList_madeCells_one, Nat.mul_one]
  rw [this]
def ch0 : ChS := ⟨2, false, 0, fun _ => [], fun _ => [], 0⟩
theorem ch0_w : ChW ch0 := by
  refine ⟨by decide, by decide, fun h => ?_, fun _ => List.nodup_nil, fun i k h => ?_, fun h => ?_, fun h => ?_, fun h => ?_, fun h => ?_⟩
  · exact absurd h (by decide)
  · exact absurd h (by simp [ch0, ks])
  all_goals exact absurd h (by decide)
set_option maxHeartbeats 1000000 in
theorem ch_new (w : World) :
    Calls Try.prog 9 #[] w fun e w' => ∃ t, e = .returned (.pointer (some ⟨t, 0, none⟩)) ∧ ChAt w' (fun b => w.heap.size ≤ b ∧ b < w'.heap.size) t ch0 ∧ Fr (fun _ => False) w w' := by
  have hm : (Instr.makeSlice 56 (.int .i64 4) (.int .i64 4)).run Try.prog w = .ok (.slice (some ⟨w.heap.size, 0, none⟩) 4 4) (w.alloc (.cells (List.replicate 4 (Value.pointer none)).toArray 59)) := run_make_ents 4 (by decide) w
  obtain ⟨o, ho⟩ : ∃ o, Obj.cells (List.replicate 4 (Value.pointer none)).toArray 59 = o := ⟨_, rfl⟩
  rw [ho] at hm
  go_enter Try.func9, Try.ntmps9
  go_wp2_with fail
  go_ret
  have hz : (w.alloc o).heap.size = w.heap.size + 1 := by simp
  obtain ⟨o2, ho2⟩ : ∃ o2, Obj.cells #[.int .i64 2, .slice none 0 0, .slice (some ⟨w.heap.size, 0, none⟩) 4 4, .int .i64 0, .int .i64 0] 58 = o2 := ⟨_, rfl⟩
  rw [ho2]
  have hz2 : ((w.alloc o).alloc o2).heap.size = w.heap.size + 2 := by simp
  have h1 := heap_alloc_new (w.alloc o) o2
  rw [hz] at h1
  have h0 := (heap_alloc_old o2 (show w.heap.size < (w.alloc o).heap.size by omega)).trans (heap_alloc_new w o)
  refine ⟨_, rfl, ⟨ch0_w, w.heap.size, 0, List.replicate 4 (.pointer none), [], 0, ⟨⟨by omega, by omega⟩, ⟨by omega, by omega⟩, ?_, ?_, by decide, ?_, fun h => absurd h (by decide)⟩⟩, ((Fr.refl _ w).alloc o).alloc o2⟩
  · rw [h1, ← ho2]; rfl
  · rw [h0, ← ho]
  · intro i v hv
    have := List.mem_of_getElem? hv
    exact (List.mem_replicate.1 this).2
theorem pw_cast (p : Nat) : ((2 ^ p : Nat) : Int) = (2 : Int) ^ p := by rw [Int.natCast_pow]; rfl
theorem growS_no {s : ChS} {N : Nat} (h : 2 ^ s.pw = N) (hno : s.g = true ∨ ¬ (3 * (N : Int) < 2 * s.n) ∨ ¬ s.pw < 20) : growS s = s := by
  unfold growS
  rw [if_neg]
  rintro ⟨q1, q2, q3⟩
  rcases hno with q | q | q
  · rw [q1] at q; cases q
  · have := pw_cast s.pw
    rw [h] at this
    omega
  · exact q q3
set_option maxHeartbeats 4000000 in
theorem ch_set (S : Nat → Prop) (t : Nat) (s : ChS) (k : ByteArray) (n : Int) (hk : k.size ≤ 9223372036854775807) (w : World) (h : ChAt w S t s) (hn : -1000000 ≤ s.n ∧ s.n < 1000000) :
    Calls Try.prog 10 #[.pointer (some ⟨t, 0, none⟩), .string k, .int .i64 n] w fun e w' => e = .returned (.tuple #[]) ∧ ChAt w' (grow S w w') t (setS s k n) ∧ Fr S w w' := by
  obtain ⟨hW, rb, ob, xs, ys, mvv, h⟩ := h
  have HF := Lib.hid (ch_find S t rb ob s xs ys mvv k hk w hW h)
  have HO := Lib.hid (show ∀ w, Calls Try.prog 20 #[.string k] w fun e w' => e = .returned (.int .u64 (fk k)) ∧ w = w' from fun w => of_any k w hk)
  have HH := Lib.hid (And.intro hW h)
  clear h hW
  go_enter Try.func10, Try.ntmps10
  go_wp2_with fail
  refine HF.out.mono ?_
  rintro e w1 ⟨a, v', pre, suf, q, rfl, rfl, hfd, hs⟩
  have hca : (w.drewN q).cell? a = some v' := hfd.2.2.2.1
  rcases look_at hfd hs with ⟨rfl, hl⟩ | ⟨n0, suf', rfl, hl⟩
  · have hv : v' = .pointer none := hfd.2.2.1
    subst hv
    have HL := Lib.hid (And.intro hl hfd)
    obtain ⟨vs, v, k1, k2, k3, k4⟩ := home_at HH.out.1 HH.out.2 k
    have hh : ChO (w.drewN q) S t s rb ob xs ys mvv := HH.out.2.frame fun _ _ _ => rfl
    have HBk := Lib.hid (ch_bucket S t rb ob s xs ys mvv k (w.drewN q) HH.out.1 hh)
    obtain ⟨sb, hsb⟩ : ∃ b, slotB s k rb ob = b := ⟨_, rfl⟩
    obtain ⟨si, hsi⟩ : ∃ b, slotI s k = b := ⟨_, rfl⟩
    rw [hsb, hsi] at HBk
    obtain ⟨vq, rfl⟩ := chn_ptr k4
    obtain ⟨g1, g2⟩ := arr_cells k1 k2
    rw [hsb, hsi] at g1 g2
    have HK := Lib.hid (And.intro k1 (And.intro k2 (And.intro k3 (And.intro k4 (And.intro hsb hsi)))))
    obtain ⟨hv, hhv⟩ : ∃ x, fk k = x := ⟨_, rfl⟩
    rw [hhv] at HO HBk
    clear hfd hl hs k1 k2 k3 k4 hh hsb hsi
    go_wp2_with fail
    refine (HO.out _).mono ?_
    rintro e w1 ⟨rfl, rfl⟩
    go_wp2_with fail
    refine HBk.out.mono ?_
    rintro e w1 ⟨rfl, q2, rfl⟩
    have g1' : (w.drewN (q + q2)).cell? ⟨sb, si, none⟩ = some (.pointer vq) := g1
    obtain ⟨g3, g4⟩ : ((w.drewN (q + q2)).alloc (.cells #[.string k, .int .u64 hv, .int .i64 n, .pointer vq] 63)).cell? ⟨sb, si, none⟩ = some (.pointer vq) ∧ ((w.drewN (q + q2)).alloc (.cells #[.string k, .int .u64 hv, .int .i64 n, .pointer vq] 63)).frozen? ⟨sb, si, none⟩ = false := by
      have h1 : w.heap[sb]? = _ := HK.out.2.2.2.2.1 ▸ HK.out.1
      have h2 : vs[si]? = _ := HK.out.2.2.2.2.2 ▸ HK.out.2.1
      exact arr_cells ((heap_alloc_old (w := w.drewN (q + q2)) _ (lt_of_heap h1)).trans h1) h2
    go_upto_region 6 with fail
    have hput : ∃ xs' ys', ChO (((w.drewN (q + q2)).alloc (.cells #[.string k, .int .u64 hv, .int .i64 n, .pointer vq] 63)).setCell ⟨sb, si, none⟩ (.pointer (some ⟨w.heap.size, 0, none⟩))) (fun b => S b ∨ b = w.heap.size) t (put s k ((k, n) :: home s k)) rb ob xs' ys' mvv := by
      have hh : ChO (w.drewN (q + q2)) S t s rb ob xs ys mvv := HH.out.2.frame fun _ _ _ => rfl
      obtain ⟨k1, k2, k3, k4, hsb, hsi⟩ := HK.out
      have := cons_put HH.out.1 hh k n k1 k2 (chn_drewN k4 (q + q2))
      rw [hsb, hsi] at this
      subst hhv
      exact this
    have hFr : Fr S w (((w.drewN (q + q2)).alloc (.cells #[.string k, .int .u64 hv, .int .i64 n, .pointer vq] 63)).setCell ⟨sb, si, none⟩ (.pointer (some ⟨w.heap.size, 0, none⟩))) :=
      (((Fr.refl S w).drewN _).alloc _).setCell (p := ⟨sb, si, none⟩) (fun _ => by have := HK.out; rw [this.2.2.2.2.1] at this; exact this.2.2.1) _
    have hzy : (((w.drewN (q + q2)).alloc (.cells #[.string k, .int .u64 hv, .int .i64 n, .pointer vq] 63)).setCell ⟨sb, si, none⟩ (.pointer (some ⟨w.heap.size, 0, none⟩))).heap.size = w.heap.size + 1 := by simp [World.setCell]
    obtain ⟨wy, hwy⟩ : ∃ wy, (((w.drewN (q + q2)).alloc (.cells #[.string k, .int .u64 hv, .int .i64 n, .pointer vq] 63)).setCell ⟨sb, si, none⟩ (.pointer (some ⟨w.heap.size, 0, none⟩))) = wy := ⟨_, rfl⟩
    rw [hwy] at hput hFr hzy ⊢
    have hks : (ks ((k, n) :: home s k)).Nodup := List.nodup_cons.2 ⟨fun hm => by
      have hl := HL.out.1
      have hfd := HL.out.2
      rw [hfd.1, List.append_nil] at hm
      exact hfd.2.1 hm, home_nodup HH.out.1 k⟩
    have hW1 := (put_w HH.out.1 hks (fun k0 q => (List.mem_cons.1 q).imp (fun q => q) (fun q => q))).setN (s.n + 1)
    obtain ⟨xs1, ys1, hput⟩ := hput
    obtain ⟨_, _, _, _, d4, df, _⟩ := hput.cells
    have df4 := df 4
    rw [(put_g _ _ _).1] at d4
    have hN := hput.setN (s.n + 1)
    have hset : setS s k n = growS { put s k ((k, n) :: home s k) with n := s.n + 1 } := by unfold setS; rw [HL.out.1]; rfl
    obtain ⟨s1, hs1⟩ : ∃ s1, ({ put s k ((k, n) :: home s k) with n := s.n + 1 } : ChS) = s1 := ⟨_, rfl⟩
    rw [hs1] at hN hW1 hset
    have hn1 : s1.n = s.n + 1 := by rw [← hs1]
    have hFr2 : Fr S w (wy.setCell ⟨t, 4, none⟩ (.int .i64 (s.n + 1))) := hFr.setCell (p := ⟨t, 4, none⟩) (fun _ => HH.out.2.hSt) _
    have hz2 : (wy.setCell ⟨t, 4, none⟩ (.int .i64 (s.n + 1))).heap.size = w.heap.size + 1 := by simp [World.setCell]; exact hzy
    obtain ⟨n1, hn1'⟩ : ∃ x, s.n = x := ⟨_, rfl⟩
    rw [hn1'] at d4 hN hn1 hFr2 hz2 hn
    have hwr : IntKind.i64.wrap (n1 + 1) = n1 + 1 := by rw [IntKind.wrap_i64]; omega
    have HR := Lib.hid (And.intro hN (And.intro hW1 (And.intro hFr2 (And.intro hz2 hset))))
    clear hput hFr hzy hwy hks hW1 hN hset hFr2 hz2 hs1 hn1' df HL HK HBk HO HF hca g1 g2 g1' g3 g4 hhv
    go_upto_region 7 with fail
    obtain ⟨wz, hwz⟩ : ∃ wz, wy.setCell ⟨t, 4, none⟩ (.int .i64 (n1 + 1)) = wz := ⟨_, rfl⟩
    rw [hwz] at HR ⊢
    clear d4 df4 hwz hwr
    obtain ⟨c0, c1, c2, c3, c4, fz, _⟩ := HR.out.1.cells
    have HFN := Lib.hid (show ∀ nq, ChAt (wz.drewN nq) (grow S w (wz.drewN nq)) t s1 ∧ Fr S w (wz.drewN nq) from fun nq => ⟨⟨HR.out.2.1, rb, ob, xs1, ys1, mvv, ChO.mono (S := fun b => S b ∨ b = w.heap.size) (HR.out.1.frame fun _ _ _ => rfl) fun b _ q => q.imp (fun q => q) (fun q => ⟨by omega, by have h := HR.out.2.2.2.1; show b < wz.heap.size; omega⟩)⟩, HR.out.2.2.1.drewN nq⟩)
    obtain ⟨a1, a2, a3, a4⟩ := two_pw HR.out.2.1.p2 HR.out.2.1.p20
    rw [hn1] at c4
    obtain ⟨N, hN⟩ : ∃ N, 2 ^ s1.pw = N := ⟨_, rfl⟩
    obtain ⟨P, hP⟩ : ∃ P, s1.pw = P := ⟨_, rfl⟩
    obtain ⟨g, hg⟩ : ∃ g, s1.g = g := ⟨_, rfl⟩
    have HP := Lib.hid (And.intro hN (And.intro hP (And.intro hg hn1)))
    rw [hN] at c2 a1 a2
    rw [hP] at c0
    have en := eql_nil
    have es := eql_some
    have hwr1 : IntKind.i64.wrap (2 * (n1 + 1)) = 2 * (n1 + 1) := by rw [IntKind.wrap_i64]; omega
    have hwr2 : IntKind.i64.wrap (3 * (N : Int)) = 3 * (N : Int) := by rw [IntKind.wrap_i64]; omega
    rw [hg] at c1
    clear hN hP hg hn1 a3 a4
    rcases g with _ | _
    · simp only [Bool.false_eq_true, if_false] at c1
      by_cases hgr : 3 * (N : Int) < 2 * (n1 + 1)
      · have hd1 : decide (3 * (N : Int) < 2 * (n1 + 1)) = true := decide_eq_true hgr
        by_cases hp20 : P < 20
        · have hd2 : decide ((P : Int) < 20) = true := decide_eq_true (by omega)
          have hwr3 : IntKind.i64.wrap (2 * (N : Int)) = 2 * (N : Int) := by rw [IntKind.wrap_i64]; omega
          have hwr4 : IntKind.i64.wrap ((P : Int) + 1) = (P : Int) + 1 := by rw [IntKind.wrap_i64]; omega
          obtain ⟨o, ho⟩ : ∃ o, Obj.cells (List.replicate (2 * N) (Value.pointer none)).toArray 59 = o := ⟨_, rfl⟩
          have hmk : ∀ W, (Instr.makeSlice 56 (.int .i64 (2 * (N : Int))) (.int .i64 (2 * (N : Int)))).run Try.prog W = .ok (.slice (some ⟨W.heap.size, 0, none⟩) (2 * N) (2 * N)) (W.alloc o) := fun W => by
            have := run_make_ents (2 * N) (by omega) W
            rw [ho] at this
            exact this
          go_quiet (fail)
          go_upto_region 8 with fail
          obtain ⟨wq, hwq⟩ : ∃ wq, wz.drewN nq = wq := ⟨_, rfl⟩
          have b0 : wq.cell? ⟨t, 0, none⟩ = some (.int .i64 P) := by rw [← hwq]; exact c0
          have b1 : wq.cell? ⟨t, 1, none⟩ = some (.slice none 0 0) := by rw [← hwq]; exact c1
          have b2 : wq.cell? ⟨t, 2, none⟩ = some (.slice (some ⟨rb, 0, none⟩) N N) := by rw [← hwq]; exact c2
          have b3 : wq.cell? ⟨t, 3, none⟩ = some (.int .i64 mvv) := by rw [← hwq]; exact c3
          have f0 : wq.frozen? ⟨t, 0, none⟩ = false := by rw [← hwq]; exact fz 0
          have f1 : wq.frozen? ⟨t, 1, none⟩ = false := by rw [← hwq]; exact fz 1
          have f2 : wq.frozen? ⟨t, 2, none⟩ = false := by rw [← hwq]; exact fz 2
          have f3 : wq.frozen? ⟨t, 3, none⟩ = false := by rw [← hwq]; exact fz 3
          have htz : t < wq.heap.size := by rw [← hwq]; exact lt_of_heap HR.out.1.hp
          have CA1 : ∀ i, (wq.alloc o).cell? ⟨t, i, none⟩ = wq.cell? ⟨t, i, none⟩ := fun i => World.cell?_of_block (heap_alloc_old o htz)
          have FA1 : ∀ i, (wq.alloc o).frozen? ⟨t, i, none⟩ = wq.frozen? ⟨t, i, none⟩ := fun i => World.frozen?_of_block (heap_alloc_old o htz)
          have CA2 : ∀ i a u, ((wq.setCell a u).alloc o).cell? ⟨t, i, none⟩ = (wq.setCell a u).cell? ⟨t, i, none⟩ := fun i a u => World.cell?_of_block (heap_alloc_old o (by simpa [World.setCell] using htz))
          have FA2 : ∀ i a u, ((wq.setCell a u).alloc o).frozen? ⟨t, i, none⟩ = (wq.setCell a u).frozen? ⟨t, i, none⟩ := fun i a u => World.frozen?_of_block (heap_alloc_old o (by simpa [World.setCell] using htz))
          rw [hwq]
          have HWQ := Lib.hid hwq
          clear hwq c0 c1 c2 c3 fz htz
          have hgrow : ∀ W1 : World, (W1.heap[t]? = some (.cells #[.int .i64 P, .slice (some ⟨rb, 0, none⟩) N N, .slice (some ⟨rb, 0, none⟩) N N, .int .i64 mvv, .int .i64 (n1 + 1)] 58 (0, 0)) ∧ W1.heap[wq.heap.size]? = some o ∧ (∀ b, b < wq.heap.size → b ≠ t → W1.heap[b]? = wq.heap[b]?) ∧ W1.heap.size = wq.heap.size + 1 ∧ Fr S w W1) →
              ∀ W2 : World, W2.heap = (((W1.setCell ⟨t, 2, none⟩ (.slice (some ⟨wq.heap.size, 0, none⟩) (2 * N) (2 * N))).setCell ⟨t, 3, none⟩ (.int .i64 0)).setCell ⟨t, 0, none⟩ (.int .i64 ((P : Int) + 1))).heap → ChAt W2 (grow S w W2) t (setS s k n) := by
            intro W1 ⟨ht, hn, hf, hz, _⟩ W2 hW2
            have hwq := HWQ.out
            have h1 : ChO wq (fun b => S b ∨ b = w.heap.size) t s1 rb ob xs1 ys1 mvv := by rw [← hwq]; exact HR.out.1.frame fun _ _ _ => rfl
            have hzq : wq.heap.size = w.heap.size + 1 := by rw [← hwq]; exact HR.out.2.2.2.1
            have htq := lt_of_heap h1.hp
            have hz2 : W2.heap.size = wq.heap.size + 1 := by rw [hW2]; simp [World.setCell]; exact hz
            obtain ⟨hN, hP, hg, hn1⟩ := HP.out
            rw [HR.out.2.2.2.2, show growS s1 = ⟨s1.pw + 1, true, 0, s1.R, fun _ => [], s1.n⟩ from by
              unfold growS
              rw [if_pos]
              refine ⟨hg, ?_, by rw [hP]; exact hp20⟩
              have := pw_cast s1.pw
              rw [hN] at this
              rw [hn1]
              omega]
            refine growth_at HR.out.2.1 h1 hg (by rw [hP]; exact hp20) (Nat.le_refl _) (fun b q => q.imp (fun q => q) (fun q => ⟨by omega, by omega⟩)) (Or.inr ⟨by omega, by omega⟩) ?_ ?_ ?_
            · rw [hW2, hN, hP, hn1]
              exact (heap_setCell_same (heap_setCell_same (heap_setCell_same ht 2 _) 3 _) 0 _).trans (by simp)
            · rw [hW2, hN, ho]
              have hne : wq.heap.size ≠ t := by omega
              exact (heap_setCell_other (p := ⟨t, 0, none⟩) hne _).trans ((heap_setCell_other (p := ⟨t, 3, none⟩) hne _).trans ((heap_setCell_other (p := ⟨t, 2, none⟩) hne _).trans hn))
            · intro b hb hne
              rw [hW2]
              exact (heap_setCell_other (p := ⟨t, 0, none⟩) hne _).trans ((heap_setCell_other (p := ⟨t, 3, none⟩) hne _).trans ((heap_setCell_other (p := ⟨t, 2, none⟩) hne _).trans (hf b hb hne)))
          have hp1 : wq.heap[t]? = some (.cells #[.int .i64 P, .slice none 0 0, .slice (some ⟨rb, 0, none⟩) N N, .int .i64 mvv, .int .i64 (n1 + 1)] 58 (0, 0)) := by
            rw [← HWQ.out]
            have := HR.out.1.hp
            obtain ⟨hN, hP, hg, hn1⟩ := HP.out
            rw [hN, hP, hg, hn1] at this
            exact this
          have hFq : Fr S w wq := by rw [← HWQ.out]; exact HR.out.2.2.1.drewN _
          have htq := lt_of_heap hp1
          have hSt : t < w.heap.size → S t := fun _ => HH.out.2.hSt
          have hne : wq.heap.size ≠ t := by omega
          have QA := Lib.hid (show _ ∧ _ from And.intro ((heap_setCell_same ((heap_alloc_old o htq).trans hp1) 1 (.slice (some ⟨rb, 0, none⟩) N N)).trans (by simp : _ = some (Obj.cells #[.int .i64 P, .slice (some ⟨rb, 0, none⟩) N N, .slice (some ⟨rb, 0, none⟩) N N, .int .i64 mvv, .int .i64 (n1 + 1)] 58 (0, 0)))) (And.intro ((heap_setCell_other (p := ⟨t, 1, none⟩) hne (.slice (some ⟨rb, 0, none⟩) N N)).trans (heap_alloc_new wq o)) (And.intro (fun b (hb : b < wq.heap.size) (hbt : b ≠ t) => (heap_setCell_other (p := ⟨t, 1, none⟩) hbt (.slice (some ⟨rb, 0, none⟩) N N)).trans (heap_alloc_old o hb)) (And.intro (by simp [World.setCell] : ((wq.alloc o).setCell ⟨t, 1, none⟩ (.slice (some ⟨rb, 0, none⟩) N N)).heap.size = wq.heap.size + 1) ((hFq.alloc o).setCell (p := ⟨t, 1, none⟩) hSt (.slice (some ⟨rb, 0, none⟩) N N))))))
          have hsz1 : (wq.setCell ⟨t, 1, none⟩ (.slice (some ⟨rb, 0, none⟩) N N)).heap.size = wq.heap.size := by simp [World.setCell]
          have hnb := heap_alloc_new (wq.setCell ⟨t, 1, none⟩ (.slice (some ⟨rb, 0, none⟩) N N)) o
          rw [hsz1] at hnb
          have QB := Lib.hid (show _ ∧ _ from And.intro ((heap_alloc_old o (by rw [hsz1]; exact htq)).trans ((heap_setCell_same hp1 1 (.slice (some ⟨rb, 0, none⟩) N N)).trans (by simp : _ = some (Obj.cells #[.int .i64 P, .slice (some ⟨rb, 0, none⟩) N N, .slice (some ⟨rb, 0, none⟩) N N, .int .i64 mvv, .int .i64 (n1 + 1)] 58 (0, 0))))) (And.intro hnb (And.intro (fun b (hb : b < wq.heap.size) (hbt : b ≠ t) => (heap_alloc_old o (by rw [hsz1]; exact hb)).trans (heap_setCell_other (p := ⟨t, 1, none⟩) hbt (.slice (some ⟨rb, 0, none⟩) N N))) (And.intro (by simp [World.setCell] : ((wq.setCell ⟨t, 1, none⟩ (.slice (some ⟨rb, 0, none⟩) N N)).alloc o).heap.size = wq.heap.size + 1) ((hFq.setCell (p := ⟨t, 1, none⟩) hSt (.slice (some ⟨rb, 0, none⟩) N N)).alloc o)))))
          have HGR := Lib.hid hgrow
          have HST := Lib.hid hSt
          clear hgrow hp1 hFq htq hSt hne hsz1 hnb
          go_region
          · go_wp2_with fail
            go_end0
            have hfr := QB.out.2.2.2.2
            exact ⟨rfl, HGR.out _ QB.out _ rfl, (((hfr.setCell (p := ⟨t, 2, none⟩) HST.out _).setCell (p := ⟨t, 3, none⟩) HST.out _).setCell (p := ⟨t, 0, none⟩) HST.out _).drew⟩
          · go_wp2_with fail
            go_end0
            have hfr := QA.out.2.2.2.2
            exact ⟨rfl, HGR.out _ QA.out _ rfl, (((hfr.setCell (p := ⟨t, 2, none⟩) HST.out _).setCell (p := ⟨t, 3, none⟩) HST.out _).setCell (p := ⟨t, 0, none⟩) HST.out _).drew⟩
        · have hd2 : decide ((P : Int) < 20) = false := decide_eq_false (by omega)
          go_quiet (fail)
          go_wp2_with fail
          go_end0
          exact ⟨rfl, by rw [HR.out.2.2.2.2, growS_no HP.out.1 (Or.inr (Or.inr (by rw [HP.out.2.1]; exact hp20)))]; exact (HFN.out _).1, (HFN.out _).2⟩
      · have hd1 : decide (3 * (N : Int) < 2 * (n1 + 1)) = false := decide_eq_false hgr
        go_quiet (fail)
        go_wp2_with fail
        go_end0
        exact ⟨rfl, by rw [HR.out.2.2.2.2, growS_no HP.out.1 (Or.inr (Or.inl (by rw [HP.out.2.2.2]; omega)))]; exact (HFN.out _).1, (HFN.out _).2⟩
    · simp only [if_true] at c1
      go_quiet (fail)
      go_wp2_with fail
      go_end0
      exact ⟨rfl, by rw [HR.out.2.2.2.2, growS_no HP.out.1 (Or.inl HP.out.2.2.1)]; exact (HFN.out _).1, (HFN.out _).2⟩
  · obtain ⟨b, nx, hv, hS, hb, hc⟩ := hfd.2.2.1
    subst hv
    obtain ⟨_, _, e2, _, ef⟩ := ent_cells hb
    have g2 : (w.drewN q).cell? ⟨b, 2, none⟩ = some (.int .i64 n0) := e2
    have gf : (w.drewN q).frozen? ⟨b, 2, none⟩ = false := ef 2
    have hh : ChO (w.drewN q) S t s rb ob xs ys mvv := HH.out.2.frame fun _ _ _ => rfl
    have hput := fnd_num (n' := n) HH.out.1 hh (fnd_drewN hfd q) rfl hS hb (chn_drewN hc q)
    have hset : setL (home s k) k n = pre ++ (k, n) :: suf' := by rw [hfd.1]; exact setL_at hfd.2.1
    have hks : ks (pre ++ (k, n) :: suf') = ks (home s k) := by rw [hfd.1, ks_app, ks_app]; rfl
    have hW2 := put_w (l := pre ++ (k, n) :: suf') HH.out.1 (by rw [hks]; exact home_nodup HH.out.1 k) (fun k0 q => Or.inr (hks ▸ q))
    have HW := Lib.hid (And.intro hW2 (And.intro hput (And.intro hset (And.intro hl hS))))
    clear hfd hc hb hl hs hput hh ef hset hks hW2 hS e2
    go_wp2_with fail
    refine bodyPost_ret (results_none rfl _ _ _) rfl ?_
    obtain ⟨hW2, ⟨xs', ys', hput⟩, hset, hl, hS⟩ := HW.out
    have hd : setS s k n = put s k (pre ++ (k, n) :: suf') := by unfold setS; rw [hl, hset]; rfl
    rw [hd]
    exact ⟨rfl, ⟨hW2, rb, ob, xs', ys', mvv, hput.mono fun b _ q => Or.inl q⟩, ((Fr.refl S w).drewN q).setCell (p := ⟨b, 2, none⟩) (fun _ => hS) _⟩
end Go.Proofs.Ytnabgcnndehaaaa
