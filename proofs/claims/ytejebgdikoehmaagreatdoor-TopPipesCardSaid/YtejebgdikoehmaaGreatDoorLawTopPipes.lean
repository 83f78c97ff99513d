/- 'ambry/ambrytop.TopPipes' returns true, for every input, and leaves its arguments as they were. No condition. -/
import Derived.Test.YtejebgdikoehmaaGreatDoorIn
import Derived.Test.YtejebgdikoehmaaGreatDoorPiN
import Derived.Test.YtejebgdikoehmaaGreatDoorTie
import Derived.Test.YtejebgdikoehmaaGreatDoorCards
import Derived.Lay
import Derived.LaidOnce
import Derived.SevenTiedAt
import Derived.WalkKit
import Derived.ProofKit
import Derived.OpenShut
import Derived.ShutString
import Derived.ChangeOld
import Derived.Below
namespace Go.Proofs.YtejebgdikoehmaaGreatDoor.topPipes
open Go.ChangeShapes Go.WideShapes Go.ChangeAt Go.RowKit
open Go.ChangeMaps (open_string shut_string)
set_option linter.unusedVariables false

theorem own : ownKnob Tryz.prog.godebug = none := by kernel_rfl
theorem laidOut : laidOutB Tryz.prog = true := by kernel_rfl

set_option maxRecDepth 100000 in
set_option maxHeartbeats 4000000 in
theorem walk (w : World) (a0 : Int) (w0 : (Lit.int .i64 a0).wf = true) (a1 : Option Addr) (n1 c1 : Nat) (w1 : n1 ≤ c1 ∧ ∀ i, i < n1 → InAt w a1 1 i (fun cs => ∃ x : Int, cs = [.int .i64 x] ∧ (Lit.int .i64 x).wf = true)) (a2 : Int) (w2 : (Lit.int .i64 a2).wf = true) :
    Calls Tryz.prog 5 #[.int .i64 a0, .slice a1 n1 c1, .int .i64 a2] w fun e w' => e = .returned (.bool true) ∧ Below w.heap.size w w' := by
  exact pipes_walk w a0 a1 n1 c1 w1 a2

set_option maxRecDepth 100000 in
theorem lifted (os : Os) (started : os.Started) (H : Type) (enc : TypeId × Value → H) :
    ReturnsInHanded {} Tryz.checked os 5 .any (fun w args => (Rows.topPipesSpec.pre enc Tryz.prog Tryz.f5 [] false w args ∧ laidMetH Tryz.prog Rows.topPipesRow.laid w) ∧ sizedMet enc Tryz.prog Tryz.f5 (OpenSpec.ofChange Rows.topPipesSpec) false w args)
      (Rows.topPipesSpec.post enc Tryz.prog Tryz.f5 false true false false) := by
  refine returnsInHanded_of_change_and (C := Tryz.checked) (X := fun w _ => laidMetH Tryz.prog Rows.topPipesRow.laid w) (fun _ _ _ hh h => h.of_heap hh) own started (by kernel_rfl) Tryz.func5
    (ChangeSpec.witness_shaped (enc := enc) (C := Tryz.checked) (os := os) (X := fun w _ => laidMetH Tryz.prog Rows.topPipesRow.laid w) false (World.laidAll Tryz.prog os Rows.topPipesRow.laid) #[.int .i64 0, .slice none 0 0, .int .i64 0] 8 (World.laidAll_os _ _ _)
      (World.shaped_of_ZipB (by kernel_rfl) (by kernel_rfl)) (by kernel_rfl) (by kernel_rfl) (by kernel_rfl)
      (by rw [MakeChecks.laidMetH_plain _ _ _ (by kernel_rfl)]; exact laidMet_laidAll _ (by kernel_rfl) (by kernel_rfl))) ?_
  intro W base args ds gs before hval0 hW _ _ hL _
  have hval : ∀ (j : Nat) t v, Tryz.f5.params[j]? = some t → args[j]? = some v → Value.okWide Tryz.prog W .any base t v := hval0
  have hW' := hW
  obtain ⟨p, q, hA0, hV, rfl, hfz, hnd⟩ := hW
  have hA : DataW.TrodAll enc Tryz.prog W 0 (fun _ => true) true Tryz.f5.params.toList args.toList ds p := hA0
  rw [Tryz.params5] at hA hval
  obtain ⟨v0, vs0, d0, ds0, p0, q0, hargs, rfl, rfl, h0, r0⟩ := trodAll_cons hA
  obtain ⟨v1, vs1, d1, ds1, p1, q1, rfl, rfl, rfl, h1, r1⟩ := trodAll_cons r0
  obtain ⟨v2, vs2, d2, ds2, p2, q2, rfl, rfl, rfl, h2, r2⟩ := trodAll_cons r1
  obtain ⟨rfl, rfl, rfl⟩ := trodAll_nil r2
  obtain rfl : args = #[v0, v1, v2] := by cases args; simp_all
  obtain ⟨rfl, rfl⟩ := trodVars_none hV
  obtain ⟨a0, rfl, rfl, rfl, w0⟩ := open_int Tryz.underlying3 (hval 0 3 v0 rfl rfl) h0
  obtain ⟨a1, n1, c1, rfl⟩ := okWide_slice Tryz.underlying22 (hval 1 22 v1 rfl rfl)
  have k1 := h1
  have lt1 : ∀ x ∈ p1, x.block < W.heap.size := by obtain ⟨m, hm⟩ := k1; exact DataW.trod_lt m _ _ _ hm
  have w1 := open_in (C := fun cs => ∃ x : Int, cs = [.int .i64 x] ∧ (Lit.int .i64 x).wf = true) Tryz.underlying22 k1 1 (by kernel_rfl) (by decide) (fun m cs x h => by obtain ⟨x, e, _, hw⟩ := DataW.trod_int Tryz.underlying3 h; exact ⟨x, e, hw⟩)
  obtain ⟨a2, rfl, rfl, rfl, w2⟩ := open_int Tryz.underlying3 (hval 2 3 v2 rfl rfl) h2
  clear hA0 hval0
  refine (walk W a0 w0 a1 n1 c1 w1 a2 w2).mono fun e W' ⟨he, bel⟩ => ?_
  subst he
  exact ⟨_, rfl, _, _, _, [], _, [], hW', trodAll_mk1 (shut_bool Tryz.underlying4 _), (trodAll_cons_mk (shut_int Tryz.underlying3 w0) (trodAll_cons_mk (Below.trod laidOut (by kernel_rfl) (of_decide_eq_true (by kernel_rfl)) k1 bel lt1) (trodAll_cons_mk (shut_int Tryz.underlying3 w2) trodAll_mk0))), rfl, bel.frame _, fun h => by cases h⟩

theorem reach : Tryz.prog.closure 5 = [5, 6, 14, 26, 43, 44, 45, 71, 72, 73, 137, 74, 46, 47, 75, 76, 77, 27, 28, 29, 48, 78, 79, 15, 30, 8, 18, 19, 13, 22, 35, 54, 89, 90, 142, 191, 147, 195, 225, 226, 227, 257, 141, 190, 224, 91, 143, 144, 145, 192, 146, 193, 228, 194, 229, 92, 258, 93, 148, 149, 196, 230, 150, 151, 169, 211, 251, 262, 263, 264, 275, 284, 212, 252, 268, 269, 253, 270, 280, 271, 272, 282, 287, 288, 50, 51, 85, 84, 86, 52, 53, 87, 88, 139, 140, 281, 273, 197, 231, 259, 232, 260, 261, 265, 276, 285, 205, 277, 286, 198, 233, 234, 156, 206, 105, 160, 199, 235, 94, 152, 153, 200, 201, 155, 236, 238, 237, 242, 239, 240, 202, 241, 244, 243, 203, 245, 154, 204, 246, 266, 278, 104, 55, 37, 56, 95, 96, 12, 21, 34, 97, 98, 101, 100, 99, 57, 102, 103, 59, 106, 58, 60, 107, 108, 157, 158, 61, 36, 23, 38, 63, 62, 24, 39, 65, 64, 109, 159, 207, 247, 208, 111, 112, 110, 161, 113, 162, 163, 164, 209, 248, 114, 117, 118, 165, 119, 210, 249, 250, 267, 279, 115, 166, 116, 167, 168, 120, 138, 121, 66, 122, 67, 123, 170, 213, 124, 125, 174, 215, 131, 129, 175, 214, 182, 171, 172, 173, 68, 126, 176, 216, 218, 254, 177, 217, 178, 127, 128, 179, 180, 181, 70, 136, 135, 130, 183, 132, 133, 184, 219, 255, 220, 222, 256, 274, 283, 185, 221, 186, 187, 223, 134, 188, 189, 40, 69, 42, 41, 25, 11, 20, 17, 32, 33, 16, 31, 49, 80, 81, 82, 83, 7] := by kernel_rfl
theorem factIn : Tryz.prog.inPlace 5 = Rows.topPipesRow.inPlace := by unfold Program.inPlace; rw [reach]; kernel_rfl
theorem factUn : Tryz.prog.unfollowed 5 = true := by unfold Program.unfollowed; rw [reach]; kernel_rfl
theorem factRe : Tryz.prog.recurses 5 = true := by unfold Program.recurses; rw [factUn]; rfl
theorem factNa : Tryz.prog.varsNamed 5 = Rows.topPipesRow.named := by unfold Program.varsNamed; rw [reach]; kernel_rfl
set_option maxRecDepth 100000 in
theorem closed : joinedFacts Tryz.prog 5 Tryz.f5 Rows.topPipesSpec Rows.topPipesRow = true := by
  unfold joinedFacts
  rw [factIn, factUn, factRe, factNa]
  kernel_rfl

theorem over : Rows.topPipesRow.holds Tryz.pinned (OpenSpec.ofChange Rows.topPipesSpec) :=
  OpenClaim.holds_of_wide 5 Tryz.f5 rfl rfl rfl rfl rfl rfl rfl ⟨rfl, rfl, rfl, rfl, rfl⟩ rfl rfl rfl rfl rfl (by kernel_rfl) Tryz.func5 closed
    (of_decide_eq_true (by kernel_rfl)) (by unfold Func.isWrapper; first | (rw [if_pos (by decide +kernel)]; kernel_rfl) | (rw [if_neg (by decide +kernel)]; exact ⟨rfl, rfl⟩))
    (fun os started H enc _ => lifted os started H enc)

theorem proved : Rows.TopPipesCardSaid :=
  Claim7.holds_tied_plain_at .later [] [.data, .data, .data, .data, .sentinel, .sentinel, .pinned] true (true, "60a293dc866a81ccb32ef45366b5d2fbd4274256021dad2770e007584f176b78") true over (fun _ h => by cases h) (by kernel_rfl) (fun _ h => by cases h) topPipes_row_tie rfl ⟨rfl, rfl⟩ (by kernel_rfl) rfl
    (fun f fn hf hfn => by
      obtain rfl : f = 5 := Option.some.inj ((show Tryz.prog.funcNamed "ambry/ambrytop.TopPipes" = some 5 by kernel_rfl).symm.trans hf) |>.symm
      obtain rfl : fn = Tryz.f5 := (Option.some.inj (Tryz.func5.symm.trans hfn)).symm
      exact ⟨by kernel_rfl, fun j t ht => by
        rw [Tryz.params5] at ht
        have hm := Array.mem_of_getElem? ht
        have hall : ((Tryz.f5.params.toList).all fun u => !Tryz.prog.wantsStandIn u) = true := by kernel_rfl
        rw [Tryz.params5] at hall
        exact (show Tryz.prog.wantsStandIn t = false by simpa using List.all_eq_true.1 hall t (by simpa using hm))⟩)
    (by kernel_rfl)
#print axioms proved
end Go.Proofs.YtejebgdikoehmaaGreatDoor.topPipes
