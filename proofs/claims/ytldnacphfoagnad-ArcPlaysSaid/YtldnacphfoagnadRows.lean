/-
  No cell of these rows narrows 'for every input' (looked for: loops, veiled, ifaces, maps, wideKeys, modest, calm, conditions, laid).
  DERIVED. THE GIVEN ROWS OF THIS SEAT. 5 by the template 'for every input the law returns true; each argument reads behind the call as it read before'; 0 by the template 'total and deterministic' (their statements: YtldnacphfoagnadTotals.lean).
  GIVEN WITH THE SEED: the statements are not yours to turn. If you find one false, say at which input.
  Laid BY PROGRAM, IN A SANDBOX (cutbox-rows.mjs): the forced cells as the released guide's own fill.sh prints them over the translation 8bca0c1d4b3ca21c… (all of the seat's roots in one cut). By AI agents, Wed Nov 11 2026. No macro, syntax, notation, axiom, sorry.
-/
import Derived.Test.YtldnacphfoagnadChecked
import GoSem.Claim
import GoSem.ClaimJoined
import GoSem.ClaimMapViews
import Derived.JoinedTies
import Derived.KernelRfl
namespace Go.Proofs.Ytldnacphfoagnad
/- THE CELL 'sum', in the pinned program and in every row, IS THE sha256 OF THE DUMP (.gsa) THAT YtldnacphfoagnadProg.lean LOADS. Nothing in Lean hashes anything: it is a label: what it is worth is what the hold of that sum in a sandbox is worth. -/
noncomputable def Try.pinned : Pinned := { name := "ytldnacphfoagnad", sum := "8bca0c1d4b3ca21c0e4b3a499b01e4441cb069b52fb45638589f5d596a03bf22", checked := Try.checked }
namespace Rows
def none {H : Type} : Left H := { results := [], args := [] }

/-- 'ambrylaw13.ArcScan': WHATEVER THE INPUT: true; the input reads as it did. -/
def arcScanSpec : ChangeSpec := { name := "arcScan", fn := fun _ => fun
  | [d] => { results := [.lit (.bool true)], args := [d] }
  | _ => none }
def arcScanRow : OpenClaim := { program := "ytldnacphfoagnad", sum := "8bca0c1d4b3ca21c0e4b3a499b01e4441cb069b52fb45638589f5d596a03bf22", func := "ambry/ambrylaw13.ArcScan", spec := "arcScan", unfollowed := true, recurses := true, apart := false }
def ArcScanSaid : Prop := arcScanRow.holds Try.pinned (OpenSpec.ofChange arcScanSpec)

/-- ITS FALSE NEIGHBOUR: 'it returns false'. Refute it at one input. -/
def arcScanWrong : ChangeSpec := { name := "arcScan", fn := fun _ => fun
  | [d] => { results := [.lit (.bool false)], args := [d] }
  | _ => none }
def ArcScanWrongFalsely : Prop := arcScanRow.holds Try.pinned (OpenSpec.ofChange arcScanWrong)

/-- 'ambrylaw13.ArcTwice': WHATEVER THE INPUT: true; the input reads as it did. -/
def arcTwiceSpec : ChangeSpec := { name := "arcTwice", fn := fun _ => fun
  | [d1, d2] => { results := [.lit (.bool true)], args := [d1, d2] }
  | _ => none }
def arcTwiceRow : OpenClaim := { program := "ytldnacphfoagnad", sum := "8bca0c1d4b3ca21c0e4b3a499b01e4441cb069b52fb45638589f5d596a03bf22", func := "ambry/ambrylaw13.ArcTwice", spec := "arcTwice", unfollowed := true, recurses := true, apart := false }
def ArcTwiceSaid : Prop := arcTwiceRow.holds Try.pinned (OpenSpec.ofChange arcTwiceSpec)

/-- ITS FALSE NEIGHBOUR: 'it returns false'. Refute it at one input. -/
def arcTwiceWrong : ChangeSpec := { name := "arcTwice", fn := fun _ => fun
  | [d1, d2] => { results := [.lit (.bool false)], args := [d1, d2] }
  | _ => none }
def ArcTwiceWrongFalsely : Prop := arcTwiceRow.holds Try.pinned (OpenSpec.ofChange arcTwiceWrong)

/-- 'ambrylaw13.ArcBack': WHATEVER THE INPUT: true; the input reads as it did. -/
def arcBackSpec : ChangeSpec := { name := "arcBack", fn := fun _ => fun
  | [d] => { results := [.lit (.bool true)], args := [d] }
  | _ => none }
def arcBackRow : OpenClaim := { program := "ytldnacphfoagnad", sum := "8bca0c1d4b3ca21c0e4b3a499b01e4441cb069b52fb45638589f5d596a03bf22", func := "ambry/ambrylaw13.ArcBack", spec := "arcBack", unfollowed := true, recurses := true, apart := false }
def ArcBackSaid : Prop := arcBackRow.holds Try.pinned (OpenSpec.ofChange arcBackSpec)

/-- ITS FALSE NEIGHBOUR: 'it returns false'. Refute it at one input. -/
def arcBackWrong : ChangeSpec := { name := "arcBack", fn := fun _ => fun
  | [d] => { results := [.lit (.bool false)], args := [d] }
  | _ => none }
def ArcBackWrongFalsely : Prop := arcBackRow.holds Try.pinned (OpenSpec.ofChange arcBackWrong)

/-- 'ambrylaw13.ArcPlays': WHATEVER THE INPUT: true; the input reads as it did. -/
def arcPlaysSpec : ChangeSpec := { name := "arcPlays", fn := fun _ => fun
  | [d] => { results := [.lit (.bool true)], args := [d] }
  | _ => none }
def arcPlaysRow : OpenClaim := { program := "ytldnacphfoagnad", sum := "8bca0c1d4b3ca21c0e4b3a499b01e4441cb069b52fb45638589f5d596a03bf22", func := "ambry/ambrylaw13.ArcPlays", spec := "arcPlays", unfollowed := true, recurses := true, apart := false }
def ArcPlaysSaid : Prop := arcPlaysRow.holds Try.pinned (OpenSpec.ofChange arcPlaysSpec)

/-- ITS FALSE NEIGHBOUR: 'it returns false'. Refute it at one input. -/
def arcPlaysWrong : ChangeSpec := { name := "arcPlays", fn := fun _ => fun
  | [d] => { results := [.lit (.bool false)], args := [d] }
  | _ => none }
def ArcPlaysWrongFalsely : Prop := arcPlaysRow.holds Try.pinned (OpenSpec.ofChange arcPlaysWrong)

/-- 'ambrylaw13.ArcServes': WHATEVER THE INPUT: true; the input reads as it did. -/
def arcServesSpec : ChangeSpec := { name := "arcServes", fn := fun _ => fun
  | [d1, d2] => { results := [.lit (.bool true)], args := [d1, d2] }
  | _ => none }
def arcServesRow : OpenClaim := { program := "ytldnacphfoagnad", sum := "8bca0c1d4b3ca21c0e4b3a499b01e4441cb069b52fb45638589f5d596a03bf22", func := "ambry/ambrylaw13.ArcServes", spec := "arcServes", unfollowed := true, recurses := true, apart := false }
def ArcServesSaid : Prop := arcServesRow.holds Try.pinned (OpenSpec.ofChange arcServesSpec)

/-- ITS FALSE NEIGHBOUR: 'it returns false'. Refute it at one input. -/
def arcServesWrong : ChangeSpec := { name := "arcServes", fn := fun _ => fun
  | [d1, d2] => { results := [.lit (.bool false)], args := [d1, d2] }
  | _ => none }
def ArcServesWrongFalsely : Prop := arcServesRow.holds Try.pinned (OpenSpec.ofChange arcServesWrong)

/- THE SECOND FORM. 'bulk': how many values and letters a reading holds, each counted each time it is reached (what is shared counts as often as it is met; a slice's spare places count too). A statement '..UptoSaid' is the law's where the arguments, and the package variables that the reading takes, are together of bulk at most 1048576: NARROWER than '..Said'. Prove '..Said' where nothing that the law and all that it calls make is longer than what came in: it says more and counts as full. Else prove '..UptoSaid'. A law counts once. -/
mutual
def uptoBulk {H : Type} : DataW H → Nat
  | .lit (.string bytes) => bytes.length + 1
  | .lit _ => 1
  | .nil => 1
  | .ptr d => uptoBulk d + 1
  | .slice elems spare => uptoBulkAll elems + uptoBulkAll spare + 1
  | .agg parts => uptoBulkAll parts + 1
  | .iface _ d => uptoBulk d + 1
  | .map entries => uptoBulkEntries entries + 1
  | .held _ => 1
def uptoBulkAll {H : Type} : List (DataW H) → Nat
  | [] => 0
  | d :: r => uptoBulk d + uptoBulkAll r
def uptoBulkEntries {H : Type} : List (Lit × DataW H) → Nat
  | [] => 0
  | x :: r => uptoBulkEntry x + uptoBulkEntries r
def uptoBulkEntry {H : Type} : Lit × DataW H → Nat
  | (.string bytes, d) => bytes.length + uptoBulk d + 1
  | (_, d) => uptoBulk d + 1
 end
def uptoSmall : (H : Type) → List (DataW H) → Bool := fun _ ds => decide (uptoBulkAll ds ≤ 1048576)
def OpenSpec.upto (s : _root_.Go.ChangeSpec) : _root_.Go.OpenSpec := { _root_.Go.OpenSpec.ofChange s with cond := some uptoSmall }

/-- 'ambrylaw13.ArcScan', WHERE WHAT IT READS IS OF BULK AT MOST 1048576: true; the input reads as it did. -/
def arcScanUptoRow : OpenClaim := { program := "ytldnacphfoagnad", sum := "8bca0c1d4b3ca21c0e4b3a499b01e4441cb069b52fb45638589f5d596a03bf22", func := "ambry/ambrylaw13.ArcScan", spec := "arcScan", unfollowed := true, recurses := true, apart := false, narrowed := true }
def ArcScanUptoSaid : Prop := arcScanUptoRow.holds Try.pinned (OpenSpec.upto arcScanSpec)

/-- 'ambrylaw13.ArcTwice', WHERE WHAT IT READS IS OF BULK AT MOST 1048576: true; the input reads as it did. -/
def arcTwiceUptoRow : OpenClaim := { program := "ytldnacphfoagnad", sum := "8bca0c1d4b3ca21c0e4b3a499b01e4441cb069b52fb45638589f5d596a03bf22", func := "ambry/ambrylaw13.ArcTwice", spec := "arcTwice", unfollowed := true, recurses := true, apart := false, narrowed := true }
def ArcTwiceUptoSaid : Prop := arcTwiceUptoRow.holds Try.pinned (OpenSpec.upto arcTwiceSpec)

/-- 'ambrylaw13.ArcBack', WHERE WHAT IT READS IS OF BULK AT MOST 1048576: true; the input reads as it did. -/
def arcBackUptoRow : OpenClaim := { program := "ytldnacphfoagnad", sum := "8bca0c1d4b3ca21c0e4b3a499b01e4441cb069b52fb45638589f5d596a03bf22", func := "ambry/ambrylaw13.ArcBack", spec := "arcBack", unfollowed := true, recurses := true, apart := false, narrowed := true }
def ArcBackUptoSaid : Prop := arcBackUptoRow.holds Try.pinned (OpenSpec.upto arcBackSpec)

/-- 'ambrylaw13.ArcPlays', WHERE WHAT IT READS IS OF BULK AT MOST 1048576: true; the input reads as it did. -/
def arcPlaysUptoRow : OpenClaim := { program := "ytldnacphfoagnad", sum := "8bca0c1d4b3ca21c0e4b3a499b01e4441cb069b52fb45638589f5d596a03bf22", func := "ambry/ambrylaw13.ArcPlays", spec := "arcPlays", unfollowed := true, recurses := true, apart := false, narrowed := true }
def ArcPlaysUptoSaid : Prop := arcPlaysUptoRow.holds Try.pinned (OpenSpec.upto arcPlaysSpec)

/-- 'ambrylaw13.ArcServes', WHERE WHAT IT READS IS OF BULK AT MOST 1048576: true; the input reads as it did. -/
def arcServesUptoRow : OpenClaim := { program := "ytldnacphfoagnad", sum := "8bca0c1d4b3ca21c0e4b3a499b01e4441cb069b52fb45638589f5d596a03bf22", func := "ambry/ambrylaw13.ArcServes", spec := "arcServes", unfollowed := true, recurses := true, apart := false, narrowed := true }
def ArcServesUptoSaid : Prop := arcServesUptoRow.holds Try.pinned (OpenSpec.upto arcServesSpec)

end Rows
end Go.Proofs.Ytldnacphfoagnad
