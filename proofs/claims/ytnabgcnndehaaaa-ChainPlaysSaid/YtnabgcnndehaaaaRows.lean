/-
  No cell of these rows narrows 'for every input' (looked for: loops, veiled, ifaces, maps, wideKeys, modest, calm, conditions, laid).
  DERIVED. THE GIVEN ROWS OF THIS SEAT. 5 by the template 'for every input the law returns true; each argument reads behind the call as it read before'; 0 by the template 'total and deterministic' (their statements: YtnabgcnndehaaaaTotals.lean).
  GIVEN WITH THE SEED: the statements are not yours to turn. If you find one false, say at which input.
  Laid BY PROGRAM, IN A SANDBOX (cutbox-rows.mjs): the forced cells as the released guide's own fill.sh prints them over the translation 9b042f3d81812012… (all of the seat's roots in one cut). By AI agents, Wed Nov 11 2026. No macro, syntax, notation, axiom, sorry.
-/
import Derived.Test.YtnabgcnndehaaaaChecked
import GoSem.Claim
import GoSem.ClaimJoined
import GoSem.ClaimMapViews
import Derived.JoinedTies
import Derived.KernelRfl
namespace Go.Proofs.Ytnabgcnndehaaaa
/- THE CELL 'sum', in the pinned program and in every row, IS THE sha256 OF THE DUMP (.gsa) THAT YtnabgcnndehaaaaProg.lean LOADS. Nothing in Lean hashes anything: it is a label: what it is worth is what the hold of that sum in a sandbox is worth. -/
noncomputable def Try.pinned : Pinned := { name := "ytnabgcnndehaaaa", sum := "9b042f3d81812012662e39948be6815d4fa07f8cf213fe04a849781f4dc3ee66", checked := Try.checked }
namespace Rows
def none {H : Type} : Left H := { results := [], args := [] }

/-- 'ambrylaw09.ChainGrows': WHATEVER THE INPUT: true; the input reads as it did. -/
def chainGrowsSpec : ChangeSpec := { name := "chainGrows", fn := fun _ => fun
  | [d] => { results := [.lit (.bool true)], args := [d] }
  | _ => none }
def chainGrowsRow : OpenClaim := { program := "ytnabgcnndehaaaa", sum := "9b042f3d81812012662e39948be6815d4fa07f8cf213fe04a849781f4dc3ee66", func := "ambry/ambrylaw09.ChainGrows", spec := "chainGrows", apart := false }
def ChainGrowsSaid : Prop := chainGrowsRow.holds Try.pinned (OpenSpec.ofChange chainGrowsSpec)

/-- ITS FALSE NEIGHBOUR: 'it returns false'. Refute it at one input. -/
def chainGrowsWrong : ChangeSpec := { name := "chainGrows", fn := fun _ => fun
  | [d] => { results := [.lit (.bool false)], args := [d] }
  | _ => none }
def ChainGrowsWrongFalsely : Prop := chainGrowsRow.holds Try.pinned (OpenSpec.ofChange chainGrowsWrong)

/-- 'ambrylaw09.ChainSame': WHATEVER THE INPUT: true; the input reads as it did. -/
def chainSameSpec : ChangeSpec := { name := "chainSame", fn := fun _ => fun
  | [d1, d2] => { results := [.lit (.bool true)], args := [d1, d2] }
  | _ => none }
def chainSameRow : OpenClaim := { program := "ytnabgcnndehaaaa", sum := "9b042f3d81812012662e39948be6815d4fa07f8cf213fe04a849781f4dc3ee66", func := "ambry/ambrylaw09.ChainSame", spec := "chainSame", apart := false }
def ChainSameSaid : Prop := chainSameRow.holds Try.pinned (OpenSpec.ofChange chainSameSpec)

/-- ITS FALSE NEIGHBOUR: 'it returns false'. Refute it at one input. -/
def chainSameWrong : ChangeSpec := { name := "chainSame", fn := fun _ => fun
  | [d1, d2] => { results := [.lit (.bool false)], args := [d1, d2] }
  | _ => none }
def ChainSameWrongFalsely : Prop := chainSameRow.holds Try.pinned (OpenSpec.ofChange chainSameWrong)

/-- 'ambrylaw09.ChainMeans': WHATEVER THE INPUT: true; the input reads as it did. -/
def chainMeansSpec : ChangeSpec := { name := "chainMeans", fn := fun _ => fun
  | [d] => { results := [.lit (.bool true)], args := [d] }
  | _ => none }
def chainMeansRow : OpenClaim := { program := "ytnabgcnndehaaaa", sum := "9b042f3d81812012662e39948be6815d4fa07f8cf213fe04a849781f4dc3ee66", func := "ambry/ambrylaw09.ChainMeans", spec := "chainMeans", unfollowed := true, recurses := true, apart := false }
def ChainMeansSaid : Prop := chainMeansRow.holds Try.pinned (OpenSpec.ofChange chainMeansSpec)

/-- ITS FALSE NEIGHBOUR: 'it returns false'. Refute it at one input. -/
def chainMeansWrong : ChangeSpec := { name := "chainMeans", fn := fun _ => fun
  | [d] => { results := [.lit (.bool false)], args := [d] }
  | _ => none }
def ChainMeansWrongFalsely : Prop := chainMeansRow.holds Try.pinned (OpenSpec.ofChange chainMeansWrong)

/-- 'ambrylaw09.ChainFront': WHATEVER THE INPUT: true; the input reads as it did. -/
def chainFrontSpec : ChangeSpec := { name := "chainFront", fn := fun _ => fun
  | [d] => { results := [.lit (.bool true)], args := [d] }
  | _ => none }
def chainFrontRow : OpenClaim := { program := "ytnabgcnndehaaaa", sum := "9b042f3d81812012662e39948be6815d4fa07f8cf213fe04a849781f4dc3ee66", func := "ambry/ambrylaw09.ChainFront", spec := "chainFront", unfollowed := true, recurses := true, apart := false }
def ChainFrontSaid : Prop := chainFrontRow.holds Try.pinned (OpenSpec.ofChange chainFrontSpec)

/-- ITS FALSE NEIGHBOUR: 'it returns false'. Refute it at one input. -/
def chainFrontWrong : ChangeSpec := { name := "chainFront", fn := fun _ => fun
  | [d] => { results := [.lit (.bool false)], args := [d] }
  | _ => none }
def ChainFrontWrongFalsely : Prop := chainFrontRow.holds Try.pinned (OpenSpec.ofChange chainFrontWrong)

/-- 'ambrylaw09.ChainPlays': WHATEVER THE INPUT: true; the input reads as it did. -/
def chainPlaysSpec : ChangeSpec := { name := "chainPlays", fn := fun _ => fun
  | [d] => { results := [.lit (.bool true)], args := [d] }
  | _ => none }
def chainPlaysRow : OpenClaim := { program := "ytnabgcnndehaaaa", sum := "9b042f3d81812012662e39948be6815d4fa07f8cf213fe04a849781f4dc3ee66", func := "ambry/ambrylaw09.ChainPlays", spec := "chainPlays", unfollowed := true, recurses := true, apart := false }
def ChainPlaysSaid : Prop := chainPlaysRow.holds Try.pinned (OpenSpec.ofChange chainPlaysSpec)

/-- ITS FALSE NEIGHBOUR: 'it returns false'. Refute it at one input. -/
def chainPlaysWrong : ChangeSpec := { name := "chainPlays", fn := fun _ => fun
  | [d] => { results := [.lit (.bool false)], args := [d] }
  | _ => none }
def ChainPlaysWrongFalsely : Prop := chainPlaysRow.holds Try.pinned (OpenSpec.ofChange chainPlaysWrong)

/- THE SECOND FORM. 'bulk': how many values and letters a reading holds, each counted each time it is reached (what is shared counts as often as it is met; a slice's spare places count too). A statement '..UptoSaid' is the law's where the arguments, and the package variables that the reading takes, are together of bulk at most 1048576: NARROWER than '..Said'. Prove '..Said' where nothing that the law and all that it calls make is longer than what came in: it says more and counts as full. Else prove '..UptoSaid'. A law counts once. -/
mutual
def uptoBulk {H : Type} : DataW H → Nat
  | .lit (.string bytes) => bytes.length + 1
  | .lit _ => 1
  | .nil => 1
  | .ptr d => uptoBulk d + 1
  | .slice elems spare => uptoBulkAll elems + uptoBulkAll spare + 1
  | .agg parts => uptoBulkAll parts + 1
  | .iface _ d => uptoBulk d + 1
  | .map entries => uptoBulkEntries entries + 1
  | .held _ => 1
def uptoBulkAll {H : Type} : List (DataW H) → Nat
  | [] => 0
  | d :: r => uptoBulk d + uptoBulkAll r
def uptoBulkEntries {H : Type} : List (Lit × DataW H) → Nat
  | [] => 0
  | x :: r => uptoBulkEntry x + uptoBulkEntries r
def uptoBulkEntry {H : Type} : Lit × DataW H → Nat
  | (.string bytes, d) => bytes.length + uptoBulk d + 1
  | (_, d) => uptoBulk d + 1
 end
def uptoSmall : (H : Type) → List (DataW H) → Bool := fun _ ds => decide (uptoBulkAll ds ≤ 1048576)
def OpenSpec.upto (s : _root_.Go.ChangeSpec) : _root_.Go.OpenSpec := { _root_.Go.OpenSpec.ofChange s with cond := some uptoSmall }

/-- 'ambrylaw09.ChainGrows', WHERE WHAT IT READS IS OF BULK AT MOST 1048576: true; the input reads as it did. -/
def chainGrowsUptoRow : OpenClaim := { program := "ytnabgcnndehaaaa", sum := "9b042f3d81812012662e39948be6815d4fa07f8cf213fe04a849781f4dc3ee66", func := "ambry/ambrylaw09.ChainGrows", spec := "chainGrows", apart := false, narrowed := true }
def ChainGrowsUptoSaid : Prop := chainGrowsUptoRow.holds Try.pinned (OpenSpec.upto chainGrowsSpec)

/-- 'ambrylaw09.ChainSame', WHERE WHAT IT READS IS OF BULK AT MOST 1048576: true; the input reads as it did. -/
def chainSameUptoRow : OpenClaim := { program := "ytnabgcnndehaaaa", sum := "9b042f3d81812012662e39948be6815d4fa07f8cf213fe04a849781f4dc3ee66", func := "ambry/ambrylaw09.ChainSame", spec := "chainSame", apart := false, narrowed := true }
def ChainSameUptoSaid : Prop := chainSameUptoRow.holds Try.pinned (OpenSpec.upto chainSameSpec)

/-- 'ambrylaw09.ChainMeans', WHERE WHAT IT READS IS OF BULK AT MOST 1048576: true; the input reads as it did. -/
def chainMeansUptoRow : OpenClaim := { program := "ytnabgcnndehaaaa", sum := "9b042f3d81812012662e39948be6815d4fa07f8cf213fe04a849781f4dc3ee66", func := "ambry/ambrylaw09.ChainMeans", spec := "chainMeans", unfollowed := true, recurses := true, apart := false, narrowed := true }
def ChainMeansUptoSaid : Prop := chainMeansUptoRow.holds Try.pinned (OpenSpec.upto chainMeansSpec)

/-- 'ambrylaw09.ChainFront', WHERE WHAT IT READS IS OF BULK AT MOST 1048576: true; the input reads as it did. -/
def chainFrontUptoRow : OpenClaim := { program := "ytnabgcnndehaaaa", sum := "9b042f3d81812012662e39948be6815d4fa07f8cf213fe04a849781f4dc3ee66", func := "ambry/ambrylaw09.ChainFront", spec := "chainFront", unfollowed := true, recurses := true, apart := false, narrowed := true }
def ChainFrontUptoSaid : Prop := chainFrontUptoRow.holds Try.pinned (OpenSpec.upto chainFrontSpec)

/-- 'ambrylaw09.ChainPlays', WHERE WHAT IT READS IS OF BULK AT MOST 1048576: true; the input reads as it did. -/
def chainPlaysUptoRow : OpenClaim := { program := "ytnabgcnndehaaaa", sum := "9b042f3d81812012662e39948be6815d4fa07f8cf213fe04a849781f4dc3ee66", func := "ambry/ambrylaw09.ChainPlays", spec := "chainPlays", unfollowed := true, recurses := true, apart := false, narrowed := true }
def ChainPlaysUptoSaid : Prop := chainPlaysUptoRow.holds Try.pinned (OpenSpec.upto chainPlaysSpec)

end Rows
end Go.Proofs.Ytnabgcnndehaaaa
