/- Layer 9 (chain): what each call does, two: New, Len, Power, Moved, Delete, Set. -/
import Derived.Test.YtnabgcnndehaaaaChStore
import Derived.WalkSpells
import Derived.WalkLawsBesides
import Derived.StillTailTactics
import Derived.Deep.CutBlock
import Derived.BigRegion
namespace Go.Proofs.Ytnabgcnndehaaaa
open Go.RowKit
set_option linter.unusedVariables false
section
variable {w : World} {S : Nat → Prop} {t : Nat} {s : ChS}
theorem ch_len (h : ChAt w S t s) : Calls Try.prog 13 #[.pointer (some ⟨t, 0, none⟩)] w fun e w' => e = .returned (.int .i64 s.n) ∧ w = w' := by
  obtain ⟨_, rb, ob, xs, ys, mvv, h⟩ := h
  obtain ⟨_, _, _, _, c4, _, _⟩ := h.cells
  clear h
  go_enter Try.func13, Try.ntmps13
  go_wp2
  go_ret
  exact ⟨rfl, rfl⟩
theorem ch_power (h : ChAt w S t s) : Calls Try.prog 12 #[.pointer (some ⟨t, 0, none⟩)] w fun e w' => e = .returned (.int .i64 s.pw) ∧ w = w' := by
  obtain ⟨_, rb, ob, xs, ys, mvv, h⟩ := h
  obtain ⟨c0, _, _, _, _, _, _⟩ := h.cells
  clear h
  go_enter Try.func12, Try.ntmps12
  go_wp2
  go_ret
  exact ⟨rfl, rfl⟩
theorem eql_nil (W : World) : (binOp BinOp.eql 56 (.slice none 0 0) (.slice none 0 0)).run Try.prog W = .ok (.bool true) W := by kernel_rfl
theorem eql_some (a : Addr) (n c : Nat) (W : World) : (binOp BinOp.eql 56 (.slice (some a) n c) (.slice none 0 0)).run Try.prog W = .ok (.bool false) W := by kernel_rfl
def movedS (s : ChS) : Int := if s.g then s.m else -1
theorem ch_moved (h : ChAt w S t s) : Calls Try.prog 14 #[.pointer (some ⟨t, 0, none⟩)] w fun e w' => e = .returned (.int .i64 (movedS s)) ∧ w = w' := by
  obtain ⟨_, rb, ob, xs, ys, mvv, h⟩ := h
  obtain ⟨_, c1, _, c3, _, _, _⟩ := h.cells
  have hg := h.hg
  have en := eql_nil
  have es := eql_some
  unfold movedS
  clear h
  obtain ⟨g, hgg⟩ : ∃ g, s.g = g := ⟨_, rfl⟩
  rw [hgg] at c1 hg ⊢
  rcases g with _ | _
  · simp only [Bool.false_eq_true, if_false] at c1 ⊢
    clear hg
    go_enter Try.func14, Try.ntmps14
    go_wp2
    go_ret
    exact ⟨rfl, rfl⟩
  · have hm := (hg rfl).1
    subst hm
    simp only [if_true] at c1 ⊢
    clear hg
    go_enter Try.func14, Try.ntmps14
    go_wp2
    go_ret
    exact ⟨rfl, rfl⟩
end
theorem look_at {w : World} {S : Nat → Prop} {rb ob : Nat} {s : ChS} {k : ByteArray} {a : Addr} {v' : Value} {pre suf : List KN} (hfd : Fnd w S rb ob s k a v' pre suf) (hs : suf = [] ∨ ∃ n suf', suf = (k, n) :: suf') : (suf = [] ∧ look s k = none) ∨ ∃ n suf', suf = (k, n) :: suf' ∧ look s k = some n := by
  rcases hs with rfl | ⟨n, suf', rfl⟩
  · exact Or.inl ⟨rfl, by unfold look; rw [hfd.1, List.append_nil]; exact getN_none hfd.2.1⟩
  · exact Or.inr ⟨n, suf', rfl, by unfold look; rw [hfd.1]; exact getN_at hfd.2.1⟩
theorem put_g (s : ChS) (k : ByteArray) (l : List KN) : (put s k l).n = s.n ∧ (put s k l).g = s.g ∧ (put s k l).pw = s.pw ∧ (put s k l).m = s.m := by
  unfold put; split <;> exact ⟨rfl, rfl, rfl, rfl⟩
set_option maxHeartbeats 2000000 in
theorem ch_delete (S : Nat → Prop) (t : Nat) (s : ChS) (k : ByteArray) (hk : k.size ≤ 9223372036854775807) (w : World) (h : ChAt w S t s) (hn : -1000000 ≤ s.n ∧ s.n ≤ 1000000) :
    Calls Try.prog 15 #[.pointer (some ⟨t, 0, none⟩), .string k] w fun e w' => e = .returned (.bool (look s k).isSome) ∧ ChAt w' S t (delS s k) ∧ Fr S w w' := by
  have HA := Lib.hid h
  obtain ⟨hW, rb, ob, xs, ys, mvv, h⟩ := h
  have HF := Lib.hid (ch_find S t rb ob s xs ys mvv k hk w hW h)
  have HH := Lib.hid (And.intro hW h)
  clear h hW
  go_enter Try.func15, Try.ntmps15
  go_wp2_with fail
  refine HF.out.mono ?_
  rintro e w1 ⟨a, v', pre, suf, q, rfl, rfl, hfd, hs⟩
  have hca : (w.drewN q).cell? a = some v' := hfd.2.2.2.1
  have hfa : (w.drewN q).frozen? a = false := hfd.2.2.2.2.1
  rcases look_at hfd hs with ⟨rfl, hl⟩ | ⟨n, suf', rfl, hl⟩
  · have hv : v' = .pointer none := hfd.2.2.1
    subst hv
    have HL := Lib.hid hl
    clear hfd hl hs
    go_wp2
    go_ret
    refine ⟨by rw [HL.out]; rfl, ?_, (Fr.refl S w).drewN q⟩
    unfold delS
    rw [HL.out]
    exact HA.out.frame fun _ _ _ => rfl
  · obtain ⟨b, nx, hv, hS, hb, hc⟩ := hfd.2.2.1
    subst hv
    obtain ⟨nq, rfl⟩ := chn_ptr hc
    obtain ⟨_, _, _, e3, _⟩ := ent_cells hb
    have g3 : (w.drewN q).cell? ⟨b, 3, none⟩ = some (.pointer nq) := e3
    have hh : ChO (w.drewN q) S t s rb ob xs ys mvv := HH.out.2.frame fun _ _ _ => rfl
    have hfd' : Fnd (w.drewN q) S rb ob s k a (.pointer (some ⟨b, 0, none⟩)) pre ((k, n) :: suf') := fnd_drewN hfd q
    have hc' : Chn (w.drewN q) S (.pointer nq) suf' := chn_drewN hc q
    obtain ⟨xs', ys', hput⟩ := fnd_put HH.out.1 hh hfd' (u := .pointer nq) (suf2 := suf') (fnd_behind HH.out.1 hfd' (fun k1 q => List.mem_cons_of_mem _ q) hc')
    obtain ⟨_, _, _, _, d4, df, _⟩ := hput.cells
    have df4 := df 4
    rw [(put_g _ _ _).1] at d4
    have ha : a.block < w.heap.size → S a.block := fun _ => by
      obtain ⟨_, _, _, _, _, v, vs, _, _, h8, h9⟩ := hfd
      by_cases hp : pre = []
      · subst hp; rw [h9.1]; exact h8
      · obtain ⟨b', k', n', e1, e2, _⟩ := hole_block h9 hp; rw [e1]; exact e2
    have hdel : delL (home s k) k = pre ++ suf' := by rw [hfd.1]; exact delL_at hfd.2.1
    have hks : (ks (pre ++ suf')).Nodup := by
      have := home_nodup HH.out.1 k
      rw [hfd.1, ks_app] at this
      rw [ks_app]
      have h2 := List.nodup_append.1 this
      exact List.nodup_append.2 ⟨h2.1, (List.nodup_cons.1 h2.2.1).2, fun x q1 y q2 => h2.2.2 x q1 y (List.mem_cons_of_mem _ q2)⟩
    have hkm : ∀ k0, k0 ∈ ks (pre ++ suf') → k0 = k ∨ k0 ∈ ks (home s k) := fun k0 q => Or.inr (by
      rw [hfd.1, ks_app]
      rw [ks_app] at q
      exact (List.mem_append.1 q).elim (fun q => List.mem_append_left _ q) (fun q => List.mem_append_right _ (List.mem_cons_of_mem _ q)))
    have HW := Lib.hid (And.intro (put_w HH.out.1 hks hkm) (And.intro hput (And.intro hdel (And.intro hl ha))))
    have hwr : IntKind.i64.wrap (s.n - 1) = s.n - 1 := by rw [IntKind.wrap_i64]; omega
    obtain ⟨N, hN⟩ : ∃ N, s.n = N := ⟨_, rfl⟩
    rw [hN] at d4 hwr hn
    have HN := Lib.hid hN
    clear hfd hfd' hc hc' hb hl hs hput hh df hdel hks hkm ha e3 hN
    go_upto_region 5 with fail
    obtain ⟨wy, hwy⟩ : ∃ wy, (w.drewN q).setCell a (.pointer nq) = wy := ⟨_, rfl⟩
    rw [hwy] at d4 df4 HW ⊢
    have HY := Lib.hid hwy
    clear hwy
    go_wp2_with fail
    go_ret
    obtain ⟨hW2, hput, hdel, hl, ha⟩ := HW.out
    refine ⟨by rw [hl]; rfl, ?_, ?_⟩
    · have hd : delS s k = { put s k (pre ++ suf') with n := N - 1 } := by unfold delS; rw [hl, hdel, HN.out]; rfl
      rw [hd]
      have := hput.setN (N - 1)
      exact ⟨hW2.setN _, rb, ob, xs', ys', mvv, by first | exact this | simpa using this⟩
    · rw [← HY.out]
      exact ((((Fr.refl S w).drewN q).setCell ha _).setCell (p := ⟨t, 4, none⟩) (fun _ => HH.out.2.hSt) _)
end Go.Proofs.Ytnabgcnndehaaaa
