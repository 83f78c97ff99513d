/-
  No cell of these rows narrows 'for every input' (looked for: loops, veiled, ifaces, maps, wideKeys, modest, calm, conditions, laid).
  DERIVED. THE GIVEN ROWS OF THIS SEAT. 5 by the template 'for every input the law returns true; each argument reads behind the call as it read before'; 0 by the template 'total and deterministic' (their statements: YtldnacphfoagnaaTotals.lean).
  GIVEN WITH THE SEED: the statements are not yours to turn. If you find one false, say at which input.
  Laid BY PROGRAM, IN A SANDBOX (cutbox-rows.mjs): the forced cells as the released guide's own fill.sh prints them over the translation ab1dec98c8aeca75… (all of the seat's roots in one cut). By AI agents, Wed Nov 11 2026. No macro, syntax, notation, axiom, sorry.
-/
import Derived.Test.YtldnacphfoagnaaChecked
import GoSem.Claim
import GoSem.ClaimJoined
import GoSem.ClaimMapViews
import Derived.JoinedTies
import Derived.KernelRfl
namespace Go.Proofs.Ytldnacphfoagnaa
/- THE CELL 'sum', in the pinned program and in every row, IS THE sha256 OF THE DUMP (.gsa) THAT YtldnacphfoagnaaProg.lean LOADS. Nothing in Lean hashes anything: it is a label: what it is worth is what the hold of that sum in a sandbox is worth. -/
noncomputable def Try.pinned : Pinned := { name := "ytldnacphfoagnaa", sum := "ab1dec98c8aeca75857ab2656fcb445de2702d99d75de7d3d7112c41da13d426", checked := Try.checked }
namespace Rows
def none {H : Type} : Left H := { results := [], args := [] }

/-- 'ambrylaw10.RowsMoves': WHATEVER THE INPUT: true; the input reads as it did. -/
def rowsMovesSpec : ChangeSpec := { name := "rowsMoves", fn := fun _ => fun
  | [d1, d2] => { results := [.lit (.bool true)], args := [d1, d2] }
  | _ => none }
def rowsMovesRow : OpenClaim := { program := "ytldnacphfoagnaa", sum := "ab1dec98c8aeca75857ab2656fcb445de2702d99d75de7d3d7112c41da13d426", func := "ambry/ambrylaw10.RowsMoves", spec := "rowsMoves", unfollowed := true, recurses := true, apart := false }
def RowsMovesSaid : Prop := rowsMovesRow.holds Try.pinned (OpenSpec.ofChange rowsMovesSpec)

/-- ITS FALSE NEIGHBOUR: 'it returns false'. Refute it at one input. -/
def rowsMovesWrong : ChangeSpec := { name := "rowsMoves", fn := fun _ => fun
  | [d1, d2] => { results := [.lit (.bool false)], args := [d1, d2] }
  | _ => none }
def RowsMovesWrongFalsely : Prop := rowsMovesRow.holds Try.pinned (OpenSpec.ofChange rowsMovesWrong)

/-- 'ambrylaw10.RowsPlays': WHATEVER THE INPUT: true; the input reads as it did. -/
def rowsPlaysSpec : ChangeSpec := { name := "rowsPlays", fn := fun _ => fun
  | [d1, d2] => { results := [.lit (.bool true)], args := [d1, d2] }
  | _ => none }
def rowsPlaysRow : OpenClaim := { program := "ytldnacphfoagnaa", sum := "ab1dec98c8aeca75857ab2656fcb445de2702d99d75de7d3d7112c41da13d426", func := "ambry/ambrylaw10.RowsPlays", spec := "rowsPlays", unfollowed := true, recurses := true, apart := false }
def RowsPlaysSaid : Prop := rowsPlaysRow.holds Try.pinned (OpenSpec.ofChange rowsPlaysSpec)

/-- ITS FALSE NEIGHBOUR: 'it returns false'. Refute it at one input. -/
def rowsPlaysWrong : ChangeSpec := { name := "rowsPlays", fn := fun _ => fun
  | [d1, d2] => { results := [.lit (.bool false)], args := [d1, d2] }
  | _ => none }
def RowsPlaysWrongFalsely : Prop := rowsPlaysRow.holds Try.pinned (OpenSpec.ofChange rowsPlaysWrong)

/-- 'ambrylaw10.RowsTurn': WHATEVER THE INPUT: true; the input reads as it did. -/
def rowsTurnSpec : ChangeSpec := { name := "rowsTurn", fn := fun _ => fun
  | [d1, d2] => { results := [.lit (.bool true)], args := [d1, d2] }
  | _ => none }
def rowsTurnRow : OpenClaim := { program := "ytldnacphfoagnaa", sum := "ab1dec98c8aeca75857ab2656fcb445de2702d99d75de7d3d7112c41da13d426", func := "ambry/ambrylaw10.RowsTurn", spec := "rowsTurn", unfollowed := true, recurses := true, apart := false }
def RowsTurnSaid : Prop := rowsTurnRow.holds Try.pinned (OpenSpec.ofChange rowsTurnSpec)

/-- ITS FALSE NEIGHBOUR: 'it returns false'. Refute it at one input. -/
def rowsTurnWrong : ChangeSpec := { name := "rowsTurn", fn := fun _ => fun
  | [d1, d2] => { results := [.lit (.bool false)], args := [d1, d2] }
  | _ => none }
def RowsTurnWrongFalsely : Prop := rowsTurnRow.holds Try.pinned (OpenSpec.ofChange rowsTurnWrong)

/-- 'ambrylaw10.RowsOne': WHATEVER THE INPUT: true; the input reads as it did. -/
def rowsOneSpec : ChangeSpec := { name := "rowsOne", fn := fun _ => fun
  | [d1, d2] => { results := [.lit (.bool true)], args := [d1, d2] }
  | _ => none }
def rowsOneRow : OpenClaim := { program := "ytldnacphfoagnaa", sum := "ab1dec98c8aeca75857ab2656fcb445de2702d99d75de7d3d7112c41da13d426", func := "ambry/ambrylaw10.RowsOne", spec := "rowsOne", unfollowed := true, recurses := true, apart := false }
def RowsOneSaid : Prop := rowsOneRow.holds Try.pinned (OpenSpec.ofChange rowsOneSpec)

/-- ITS FALSE NEIGHBOUR: 'it returns false'. Refute it at one input. -/
def rowsOneWrong : ChangeSpec := { name := "rowsOne", fn := fun _ => fun
  | [d1, d2] => { results := [.lit (.bool false)], args := [d1, d2] }
  | _ => none }
def RowsOneWrongFalsely : Prop := rowsOneRow.holds Try.pinned (OpenSpec.ofChange rowsOneWrong)

/-- 'ambrylaw10.RowsRefuse': WHATEVER THE INPUT: true; the input reads as it did. -/
def rowsRefuseSpec : ChangeSpec := { name := "rowsRefuse", fn := fun _ => fun
  | [d1, d2, d3] => { results := [.lit (.bool true)], args := [d1, d2, d3] }
  | _ => none }
def rowsRefuseRow : OpenClaim := { program := "ytldnacphfoagnaa", sum := "ab1dec98c8aeca75857ab2656fcb445de2702d99d75de7d3d7112c41da13d426", func := "ambry/ambrylaw10.RowsRefuse", spec := "rowsRefuse", unfollowed := true, recurses := true, apart := false }
def RowsRefuseSaid : Prop := rowsRefuseRow.holds Try.pinned (OpenSpec.ofChange rowsRefuseSpec)

/-- ITS FALSE NEIGHBOUR: 'it returns false'. Refute it at one input. -/
def rowsRefuseWrong : ChangeSpec := { name := "rowsRefuse", fn := fun _ => fun
  | [d1, d2, d3] => { results := [.lit (.bool false)], args := [d1, d2, d3] }
  | _ => none }
def RowsRefuseWrongFalsely : Prop := rowsRefuseRow.holds Try.pinned (OpenSpec.ofChange rowsRefuseWrong)

/- THE SECOND FORM. 'bulk': how many values and letters a reading holds, each counted each time it is reached (what is shared counts as often as it is met; a slice's spare places count too). A statement '..UptoSaid' is the law's where the arguments, and the package variables that the reading takes, are together of bulk at most 1048576: NARROWER than '..Said'. Prove '..Said' where nothing that the law and all that it calls make is longer than what came in: it says more and counts as full. Else prove '..UptoSaid'. A law counts once. -/
mutual
def uptoBulk {H : Type} : DataW H → Nat
  | .lit (.string bytes) => bytes.length + 1
  | .lit _ => 1
  | .nil => 1
  | .ptr d => uptoBulk d + 1
  | .slice elems spare => uptoBulkAll elems + uptoBulkAll spare + 1
  | .agg parts => uptoBulkAll parts + 1
  | .iface _ d => uptoBulk d + 1
  | .map entries => uptoBulkEntries entries + 1
  | .held _ => 1
def uptoBulkAll {H : Type} : List (DataW H) → Nat
  | [] => 0
  | d :: r => uptoBulk d + uptoBulkAll r
def uptoBulkEntries {H : Type} : List (Lit × DataW H) → Nat
  | [] => 0
  | x :: r => uptoBulkEntry x + uptoBulkEntries r
def uptoBulkEntry {H : Type} : Lit × DataW H → Nat
  | (.string bytes, d) => bytes.length + uptoBulk d + 1
  | (_, d) => uptoBulk d + 1
 end
def uptoSmall : (H : Type) → List (DataW H) → Bool := fun _ ds => decide (uptoBulkAll ds ≤ 1048576)
def OpenSpec.upto (s : _root_.Go.ChangeSpec) : _root_.Go.OpenSpec := { _root_.Go.OpenSpec.ofChange s with cond := some uptoSmall }

/-- 'ambrylaw10.RowsMoves', WHERE WHAT IT READS IS OF BULK AT MOST 1048576: true; the input reads as it did. -/
def rowsMovesUptoRow : OpenClaim := { program := "ytldnacphfoagnaa", sum := "ab1dec98c8aeca75857ab2656fcb445de2702d99d75de7d3d7112c41da13d426", func := "ambry/ambrylaw10.RowsMoves", spec := "rowsMoves", unfollowed := true, recurses := true, apart := false, narrowed := true }
def RowsMovesUptoSaid : Prop := rowsMovesUptoRow.holds Try.pinned (OpenSpec.upto rowsMovesSpec)

/-- 'ambrylaw10.RowsPlays', WHERE WHAT IT READS IS OF BULK AT MOST 1048576: true; the input reads as it did. -/
def rowsPlaysUptoRow : OpenClaim := { program := "ytldnacphfoagnaa", sum := "ab1dec98c8aeca75857ab2656fcb445de2702d99d75de7d3d7112c41da13d426", func := "ambry/ambrylaw10.RowsPlays", spec := "rowsPlays", unfollowed := true, recurses := true, apart := false, narrowed := true }
def RowsPlaysUptoSaid : Prop := rowsPlaysUptoRow.holds Try.pinned (OpenSpec.upto rowsPlaysSpec)

/-- 'ambrylaw10.RowsTurn', WHERE WHAT IT READS IS OF BULK AT MOST 1048576: true; the input reads as it did. -/
def rowsTurnUptoRow : OpenClaim := { program := "ytldnacphfoagnaa", sum := "ab1dec98c8aeca75857ab2656fcb445de2702d99d75de7d3d7112c41da13d426", func := "ambry/ambrylaw10.RowsTurn", spec := "rowsTurn", unfollowed := true, recurses := true, apart := false, narrowed := true }
def RowsTurnUptoSaid : Prop := rowsTurnUptoRow.holds Try.pinned (OpenSpec.upto rowsTurnSpec)

/-- 'ambrylaw10.RowsOne', WHERE WHAT IT READS IS OF BULK AT MOST 1048576: true; the input reads as it did. -/
def rowsOneUptoRow : OpenClaim := { program := "ytldnacphfoagnaa", sum := "ab1dec98c8aeca75857ab2656fcb445de2702d99d75de7d3d7112c41da13d426", func := "ambry/ambrylaw10.RowsOne", spec := "rowsOne", unfollowed := true, recurses := true, apart := false, narrowed := true }
def RowsOneUptoSaid : Prop := rowsOneUptoRow.holds Try.pinned (OpenSpec.upto rowsOneSpec)

/-- 'ambrylaw10.RowsRefuse', WHERE WHAT IT READS IS OF BULK AT MOST 1048576: true; the input reads as it did. -/
def rowsRefuseUptoRow : OpenClaim := { program := "ytldnacphfoagnaa", sum := "ab1dec98c8aeca75857ab2656fcb445de2702d99d75de7d3d7112c41da13d426", func := "ambry/ambrylaw10.RowsRefuse", spec := "rowsRefuse", unfollowed := true, recurses := true, apart := false, narrowed := true }
def RowsRefuseUptoSaid : Prop := rowsRefuseUptoRow.holds Try.pinned (OpenSpec.upto rowsRefuseSpec)

end Rows
end Go.Proofs.Ytldnacphfoagnaa
