/-
  No cell of these rows narrows 'for every input' (looked for: loops, veiled, ifaces, maps, wideKeys, modest, calm, conditions, laid).
  DERIVED. THE GIVEN ROWS OF THIS SEAT. 5 by the template 'for every input the law returns true; each argument reads behind the call as it read before'; 0 by the template 'total and deterministic' (their statements: YtldnacphfoagnacTotals.lean).
  GIVEN WITH THE SEED: the statements are not yours to turn. If you find one false, say at which input.
  Laid BY PROGRAM, IN A SANDBOX (cutbox-rows.mjs): the forced cells as the released guide's own fill.sh prints them over the translation e6c7d1a5e8c2be1e… (all of the seat's roots in one cut). By AI agents, Wed Nov 11 2026. No macro, syntax, notation, axiom, sorry.
-/
import Derived.Test.YtldnacphfoagnacChecked
import GoSem.Claim
import GoSem.ClaimJoined
import GoSem.ClaimMapViews
import Derived.JoinedTies
import Derived.KernelRfl
namespace Go.Proofs.Ytldnacphfoagnac
/- THE CELL 'sum', in the pinned program and in every row, IS THE sha256 OF THE DUMP (.gsa) THAT YtldnacphfoagnacProg.lean LOADS. Nothing in Lean hashes anything: it is a label: what it is worth is what the hold of that sum in a sandbox is worth. -/
noncomputable def Try.pinned : Pinned := { name := "ytldnacphfoagnac", sum := "e6c7d1a5e8c2be1eb4bb2f2718b8dc364f15a2eb536664603949d29692d3558d", checked := Try.checked }
namespace Rows
def none {H : Type} : Left H := { results := [], args := [] }

/-- 'ambrylaw12.SeglruPasses': WHATEVER THE INPUT: true; the input reads as it did. -/
def seglruPassesSpec : ChangeSpec := { name := "seglruPasses", fn := fun _ => fun
  | [d1, d2] => { results := [.lit (.bool true)], args := [d1, d2] }
  | _ => none }
def seglruPassesRow : OpenClaim := { program := "ytldnacphfoagnac", sum := "e6c7d1a5e8c2be1eb4bb2f2718b8dc364f15a2eb536664603949d29692d3558d", func := "ambry/ambrylaw12.SeglruPasses", spec := "seglruPasses", apart := false }
def SeglruPassesSaid : Prop := seglruPassesRow.holds Try.pinned (OpenSpec.ofChange seglruPassesSpec)

/-- ITS FALSE NEIGHBOUR: 'it returns false'. Refute it at one input. -/
def seglruPassesWrong : ChangeSpec := { name := "seglruPasses", fn := fun _ => fun
  | [d1, d2] => { results := [.lit (.bool false)], args := [d1, d2] }
  | _ => none }
def SeglruPassesWrongFalsely : Prop := seglruPassesRow.holds Try.pinned (OpenSpec.ofChange seglruPassesWrong)

/-- 'ambrylaw12.SeglruFirst': WHATEVER THE INPUT: true; the input reads as it did. -/
def seglruFirstSpec : ChangeSpec := { name := "seglruFirst", fn := fun _ => fun
  | [d] => { results := [.lit (.bool true)], args := [d] }
  | _ => none }
def seglruFirstRow : OpenClaim := { program := "ytldnacphfoagnac", sum := "e6c7d1a5e8c2be1eb4bb2f2718b8dc364f15a2eb536664603949d29692d3558d", func := "ambry/ambrylaw12.SeglruFirst", spec := "seglruFirst", apart := false }
def SeglruFirstSaid : Prop := seglruFirstRow.holds Try.pinned (OpenSpec.ofChange seglruFirstSpec)

/-- ITS FALSE NEIGHBOUR: 'it returns false'. Refute it at one input. -/
def seglruFirstWrong : ChangeSpec := { name := "seglruFirst", fn := fun _ => fun
  | [d] => { results := [.lit (.bool false)], args := [d] }
  | _ => none }
def SeglruFirstWrongFalsely : Prop := seglruFirstRow.holds Try.pinned (OpenSpec.ofChange seglruFirstWrong)

/-- 'ambrylaw12.SeglruEnds': WHATEVER THE INPUT: true; the input reads as it did. -/
def seglruEndsSpec : ChangeSpec := { name := "seglruEnds", fn := fun _ => fun
  | [d1, d2] => { results := [.lit (.bool true)], args := [d1, d2] }
  | _ => none }
def seglruEndsRow : OpenClaim := { program := "ytldnacphfoagnac", sum := "e6c7d1a5e8c2be1eb4bb2f2718b8dc364f15a2eb536664603949d29692d3558d", func := "ambry/ambrylaw12.SeglruEnds", spec := "seglruEnds", unfollowed := true, recurses := true, apart := false }
def SeglruEndsSaid : Prop := seglruEndsRow.holds Try.pinned (OpenSpec.ofChange seglruEndsSpec)

/-- ITS FALSE NEIGHBOUR: 'it returns false'. Refute it at one input. -/
def seglruEndsWrong : ChangeSpec := { name := "seglruEnds", fn := fun _ => fun
  | [d1, d2] => { results := [.lit (.bool false)], args := [d1, d2] }
  | _ => none }
def SeglruEndsWrongFalsely : Prop := seglruEndsRow.holds Try.pinned (OpenSpec.ofChange seglruEndsWrong)

/-- 'ambrylaw12.SeglruKeeps': WHATEVER THE INPUT: true; the input reads as it did. -/
def seglruKeepsSpec : ChangeSpec := { name := "seglruKeeps", fn := fun _ => fun
  | [d1, d2, d3] => { results := [.lit (.bool true)], args := [d1, d2, d3] }
  | _ => none }
def seglruKeepsRow : OpenClaim := { program := "ytldnacphfoagnac", sum := "e6c7d1a5e8c2be1eb4bb2f2718b8dc364f15a2eb536664603949d29692d3558d", func := "ambry/ambrylaw12.SeglruKeeps", spec := "seglruKeeps", unfollowed := true, recurses := true, apart := false }
def SeglruKeepsSaid : Prop := seglruKeepsRow.holds Try.pinned (OpenSpec.ofChange seglruKeepsSpec)

/-- ITS FALSE NEIGHBOUR: 'it returns false'. Refute it at one input. -/
def seglruKeepsWrong : ChangeSpec := { name := "seglruKeeps", fn := fun _ => fun
  | [d1, d2, d3] => { results := [.lit (.bool false)], args := [d1, d2, d3] }
  | _ => none }
def SeglruKeepsWrongFalsely : Prop := seglruKeepsRow.holds Try.pinned (OpenSpec.ofChange seglruKeepsWrong)

/-- 'ambrylaw12.SeglruPlays': WHATEVER THE INPUT: true; the input reads as it did. -/
def seglruPlaysSpec : ChangeSpec := { name := "seglruPlays", fn := fun _ => fun
  | [d] => { results := [.lit (.bool true)], args := [d] }
  | _ => none }
def seglruPlaysRow : OpenClaim := { program := "ytldnacphfoagnac", sum := "e6c7d1a5e8c2be1eb4bb2f2718b8dc364f15a2eb536664603949d29692d3558d", func := "ambry/ambrylaw12.SeglruPlays", spec := "seglruPlays", unfollowed := true, recurses := true, apart := false }
def SeglruPlaysSaid : Prop := seglruPlaysRow.holds Try.pinned (OpenSpec.ofChange seglruPlaysSpec)

/-- ITS FALSE NEIGHBOUR: 'it returns false'. Refute it at one input. -/
def seglruPlaysWrong : ChangeSpec := { name := "seglruPlays", fn := fun _ => fun
  | [d] => { results := [.lit (.bool false)], args := [d] }
  | _ => none }
def SeglruPlaysWrongFalsely : Prop := seglruPlaysRow.holds Try.pinned (OpenSpec.ofChange seglruPlaysWrong)

/- THE SECOND FORM. 'bulk': how many values and letters a reading holds, each counted each time it is reached (what is shared counts as often as it is met; a slice's spare places count too). A statement '..UptoSaid' is the law's where the arguments, and the package variables that the reading takes, are together of bulk at most 1048576: NARROWER than '..Said'. Prove '..Said' where nothing that the law and all that it calls make is longer than what came in: it says more and counts as full. Else prove '..UptoSaid'. A law counts once. -/
mutual
def uptoBulk {H : Type} : DataW H → Nat
  | .lit (.string bytes) => bytes.length + 1
  | .lit _ => 1
  | .nil => 1
  | .ptr d => uptoBulk d + 1
  | .slice elems spare => uptoBulkAll elems + uptoBulkAll spare + 1
  | .agg parts => uptoBulkAll parts + 1
  | .iface _ d => uptoBulk d + 1
  | .map entries => uptoBulkEntries entries + 1
  | .held _ => 1
def uptoBulkAll {H : Type} : List (DataW H) → Nat
  | [] => 0
  | d :: r => uptoBulk d + uptoBulkAll r
def uptoBulkEntries {H : Type} : List (Lit × DataW H) → Nat
  | [] => 0
  | x :: r => uptoBulkEntry x + uptoBulkEntries r
def uptoBulkEntry {H : Type} : Lit × DataW H → Nat
  | (.string bytes, d) => bytes.length + uptoBulk d + 1
  | (_, d) => uptoBulk d + 1
 end
def uptoSmall : (H : Type) → List (DataW H) → Bool := fun _ ds => decide (uptoBulkAll ds ≤ 1048576)
def OpenSpec.upto (s : _root_.Go.ChangeSpec) : _root_.Go.OpenSpec := { _root_.Go.OpenSpec.ofChange s with cond := some uptoSmall }

/-- 'ambrylaw12.SeglruPasses', WHERE WHAT IT READS IS OF BULK AT MOST 1048576: true; the input reads as it did. -/
def seglruPassesUptoRow : OpenClaim := { program := "ytldnacphfoagnac", sum := "e6c7d1a5e8c2be1eb4bb2f2718b8dc364f15a2eb536664603949d29692d3558d", func := "ambry/ambrylaw12.SeglruPasses", spec := "seglruPasses", apart := false, narrowed := true }
def SeglruPassesUptoSaid : Prop := seglruPassesUptoRow.holds Try.pinned (OpenSpec.upto seglruPassesSpec)

/-- 'ambrylaw12.SeglruFirst', WHERE WHAT IT READS IS OF BULK AT MOST 1048576: true; the input reads as it did. -/
def seglruFirstUptoRow : OpenClaim := { program := "ytldnacphfoagnac", sum := "e6c7d1a5e8c2be1eb4bb2f2718b8dc364f15a2eb536664603949d29692d3558d", func := "ambry/ambrylaw12.SeglruFirst", spec := "seglruFirst", apart := false, narrowed := true }
def SeglruFirstUptoSaid : Prop := seglruFirstUptoRow.holds Try.pinned (OpenSpec.upto seglruFirstSpec)

/-- 'ambrylaw12.SeglruEnds', WHERE WHAT IT READS IS OF BULK AT MOST 1048576: true; the input reads as it did. -/
def seglruEndsUptoRow : OpenClaim := { program := "ytldnacphfoagnac", sum := "e6c7d1a5e8c2be1eb4bb2f2718b8dc364f15a2eb536664603949d29692d3558d", func := "ambry/ambrylaw12.SeglruEnds", spec := "seglruEnds", unfollowed := true, recurses := true, apart := false, narrowed := true }
def SeglruEndsUptoSaid : Prop := seglruEndsUptoRow.holds Try.pinned (OpenSpec.upto seglruEndsSpec)

/-- 'ambrylaw12.SeglruKeeps', WHERE WHAT IT READS IS OF BULK AT MOST 1048576: true; the input reads as it did. -/
def seglruKeepsUptoRow : OpenClaim := { program := "ytldnacphfoagnac", sum := "e6c7d1a5e8c2be1eb4bb2f2718b8dc364f15a2eb536664603949d29692d3558d", func := "ambry/ambrylaw12.SeglruKeeps", spec := "seglruKeeps", unfollowed := true, recurses := true, apart := false, narrowed := true }
def SeglruKeepsUptoSaid : Prop := seglruKeepsUptoRow.holds Try.pinned (OpenSpec.upto seglruKeepsSpec)

/-- 'ambrylaw12.SeglruPlays', WHERE WHAT IT READS IS OF BULK AT MOST 1048576: true; the input reads as it did. -/
def seglruPlaysUptoRow : OpenClaim := { program := "ytldnacphfoagnac", sum := "e6c7d1a5e8c2be1eb4bb2f2718b8dc364f15a2eb536664603949d29692d3558d", func := "ambry/ambrylaw12.SeglruPlays", spec := "seglruPlays", unfollowed := true, recurses := true, apart := false, narrowed := true }
def SeglruPlaysUptoSaid : Prop := seglruPlaysUptoRow.holds Try.pinned (OpenSpec.upto seglruPlaysSpec)

end Rows
end Go.Proofs.Ytldnacphfoagnac
