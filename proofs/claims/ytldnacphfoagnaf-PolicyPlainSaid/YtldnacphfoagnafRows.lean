/-
  No cell of these rows narrows 'for every input' (looked for: loops, veiled, ifaces, maps, wideKeys, modest, calm, conditions, laid).
  DERIVED. THE GIVEN ROWS OF THIS SEAT. 4 by the template 'for every input the law returns true; each argument reads behind the call as it read before'; 0 by the template 'total and deterministic' (their statements: YtldnacphfoagnafTotals.lean).
  GIVEN WITH THE SEED: the statements are not yours to turn. If you find one false, say at which input.
  Laid BY PROGRAM, IN A SANDBOX (cutbox-rows.mjs): the forced cells as the released guide's own fill.sh prints them over the translation 3c0d92d83ae4db62… (all of the seat's roots in one cut). By AI agents, Wed Nov 11 2026. No macro, syntax, notation, axiom, sorry.
-/
import Derived.Test.YtldnacphfoagnafChecked
import GoSem.Claim
import GoSem.ClaimJoined
import GoSem.ClaimMapViews
import Derived.JoinedTies
import Derived.KernelRfl
namespace Go.Proofs.Ytldnacphfoagnaf
/- THE CELL 'sum', in the pinned program and in every row, IS THE sha256 OF THE DUMP (.gsa) THAT YtldnacphfoagnafProg.lean LOADS. Nothing in Lean hashes anything: it is a label: what it is worth is what the hold of that sum in a sandbox is worth. -/
noncomputable def Try.pinned : Pinned := { name := "ytldnacphfoagnaf", sum := "3c0d92d83ae4db62870b6beefd6bb6f9c01ac85014b86f0a3bc7e4746f067b57", checked := Try.checked }
namespace Rows
def none {H : Type} : Left H := { results := [], args := [] }

/-- 'ambrylaw15.PolicyRemoves': WHATEVER THE INPUT: true; the input reads as it did. -/
def policyRemovesSpec : ChangeSpec := { name := "policyRemoves", fn := fun _ => fun
  | [d1, d2, d3] => { results := [.lit (.bool true)], args := [d1, d2, d3] }
  | _ => none }
def policyRemovesRow : OpenClaim := { program := "ytldnacphfoagnaf", sum := "3c0d92d83ae4db62870b6beefd6bb6f9c01ac85014b86f0a3bc7e4746f067b57", func := "ambry/ambrylaw15.PolicyRemoves", spec := "policyRemoves", unfollowed := true, recurses := true, apart := false }
def PolicyRemovesSaid : Prop := policyRemovesRow.holds Try.pinned (OpenSpec.ofChange policyRemovesSpec)

/-- ITS FALSE NEIGHBOUR: 'it returns false'. Refute it at one input. -/
def policyRemovesWrong : ChangeSpec := { name := "policyRemoves", fn := fun _ => fun
  | [d1, d2, d3] => { results := [.lit (.bool false)], args := [d1, d2, d3] }
  | _ => none }
def PolicyRemovesWrongFalsely : Prop := policyRemovesRow.holds Try.pinned (OpenSpec.ofChange policyRemovesWrong)

/-- 'ambrylaw15.PolicyPlain': WHATEVER THE INPUT: true; the input reads as it did. -/
def policyPlainSpec : ChangeSpec := { name := "policyPlain", fn := fun _ => fun
  | [d1, d2] => { results := [.lit (.bool true)], args := [d1, d2] }
  | _ => none }
def policyPlainRow : OpenClaim := { program := "ytldnacphfoagnaf", sum := "3c0d92d83ae4db62870b6beefd6bb6f9c01ac85014b86f0a3bc7e4746f067b57", func := "ambry/ambrylaw15.PolicyPlain", spec := "policyPlain", unfollowed := true, recurses := true, apart := false }
def PolicyPlainSaid : Prop := policyPlainRow.holds Try.pinned (OpenSpec.ofChange policyPlainSpec)

/-- ITS FALSE NEIGHBOUR: 'it returns false'. Refute it at one input. -/
def policyPlainWrong : ChangeSpec := { name := "policyPlain", fn := fun _ => fun
  | [d1, d2] => { results := [.lit (.bool false)], args := [d1, d2] }
  | _ => none }
def PolicyPlainWrongFalsely : Prop := policyPlainRow.holds Try.pinned (OpenSpec.ofChange policyPlainWrong)

/-- 'ambrylaw15.PolicyServes': WHATEVER THE INPUT: true; the input reads as it did. -/
def policyServesSpec : ChangeSpec := { name := "policyServes", fn := fun _ => fun
  | [d1, d2, d3] => { results := [.lit (.bool true)], args := [d1, d2, d3] }
  | _ => none }
def policyServesRow : OpenClaim := { program := "ytldnacphfoagnaf", sum := "3c0d92d83ae4db62870b6beefd6bb6f9c01ac85014b86f0a3bc7e4746f067b57", func := "ambry/ambrylaw15.PolicyServes", spec := "policyServes", unfollowed := true, recurses := true, apart := false }
def PolicyServesSaid : Prop := policyServesRow.holds Try.pinned (OpenSpec.ofChange policyServesSpec)

/-- ITS FALSE NEIGHBOUR: 'it returns false'. Refute it at one input. -/
def policyServesWrong : ChangeSpec := { name := "policyServes", fn := fun _ => fun
  | [d1, d2, d3] => { results := [.lit (.bool false)], args := [d1, d2, d3] }
  | _ => none }
def PolicyServesWrongFalsely : Prop := policyServesRow.holds Try.pinned (OpenSpec.ofChange policyServesWrong)

/-- 'ambrylaw15.PolicyEnds': WHATEVER THE INPUT: true; the input reads as it did. -/
def policyEndsSpec : ChangeSpec := { name := "policyEnds", fn := fun _ => fun
  | [d1, d2, d3] => { results := [.lit (.bool true)], args := [d1, d2, d3] }
  | _ => none }
def policyEndsRow : OpenClaim := { program := "ytldnacphfoagnaf", sum := "3c0d92d83ae4db62870b6beefd6bb6f9c01ac85014b86f0a3bc7e4746f067b57", func := "ambry/ambrylaw15.PolicyEnds", spec := "policyEnds", unfollowed := true, recurses := true, apart := false }
def PolicyEndsSaid : Prop := policyEndsRow.holds Try.pinned (OpenSpec.ofChange policyEndsSpec)

/-- ITS FALSE NEIGHBOUR: 'it returns false'. Refute it at one input. -/
def policyEndsWrong : ChangeSpec := { name := "policyEnds", fn := fun _ => fun
  | [d1, d2, d3] => { results := [.lit (.bool false)], args := [d1, d2, d3] }
  | _ => none }
def PolicyEndsWrongFalsely : Prop := policyEndsRow.holds Try.pinned (OpenSpec.ofChange policyEndsWrong)

/- THE SECOND FORM. 'bulk': how many values and letters a reading holds, each counted each time it is reached (what is shared counts as often as it is met; a slice's spare places count too). A statement '..UptoSaid' is the law's where the arguments, and the package variables that the reading takes, are together of bulk at most 1048576: NARROWER than '..Said'. Prove '..Said' where nothing that the law and all that it calls make is longer than what came in: it says more and counts as full. Else prove '..UptoSaid'. A law counts once. -/
mutual
def uptoBulk {H : Type} : DataW H → Nat
  | .lit (.string bytes) => bytes.length + 1
  | .lit _ => 1
  | .nil => 1
  | .ptr d => uptoBulk d + 1
  | .slice elems spare => uptoBulkAll elems + uptoBulkAll spare + 1
  | .agg parts => uptoBulkAll parts + 1
  | .iface _ d => uptoBulk d + 1
  | .map entries => uptoBulkEntries entries + 1
  | .held _ => 1
def uptoBulkAll {H : Type} : List (DataW H) → Nat
  | [] => 0
  | d :: r => uptoBulk d + uptoBulkAll r
def uptoBulkEntries {H : Type} : List (Lit × DataW H) → Nat
  | [] => 0
  | x :: r => uptoBulkEntry x + uptoBulkEntries r
def uptoBulkEntry {H : Type} : Lit × DataW H → Nat
  | (.string bytes, d) => bytes.length + uptoBulk d + 1
  | (_, d) => uptoBulk d + 1
 end
def uptoSmall : (H : Type) → List (DataW H) → Bool := fun _ ds => decide (uptoBulkAll ds ≤ 1048576)
def OpenSpec.upto (s : _root_.Go.ChangeSpec) : _root_.Go.OpenSpec := { _root_.Go.OpenSpec.ofChange s with cond := some uptoSmall }

/-- 'ambrylaw15.PolicyRemoves', WHERE WHAT IT READS IS OF BULK AT MOST 1048576: true; the input reads as it did. -/
def policyRemovesUptoRow : OpenClaim := { program := "ytldnacphfoagnaf", sum := "3c0d92d83ae4db62870b6beefd6bb6f9c01ac85014b86f0a3bc7e4746f067b57", func := "ambry/ambrylaw15.PolicyRemoves", spec := "policyRemoves", unfollowed := true, recurses := true, apart := false, narrowed := true }
def PolicyRemovesUptoSaid : Prop := policyRemovesUptoRow.holds Try.pinned (OpenSpec.upto policyRemovesSpec)

/-- 'ambrylaw15.PolicyPlain', WHERE WHAT IT READS IS OF BULK AT MOST 1048576: true; the input reads as it did. -/
def policyPlainUptoRow : OpenClaim := { program := "ytldnacphfoagnaf", sum := "3c0d92d83ae4db62870b6beefd6bb6f9c01ac85014b86f0a3bc7e4746f067b57", func := "ambry/ambrylaw15.PolicyPlain", spec := "policyPlain", unfollowed := true, recurses := true, apart := false, narrowed := true }
def PolicyPlainUptoSaid : Prop := policyPlainUptoRow.holds Try.pinned (OpenSpec.upto policyPlainSpec)

/-- 'ambrylaw15.PolicyServes', WHERE WHAT IT READS IS OF BULK AT MOST 1048576: true; the input reads as it did. -/
def policyServesUptoRow : OpenClaim := { program := "ytldnacphfoagnaf", sum := "3c0d92d83ae4db62870b6beefd6bb6f9c01ac85014b86f0a3bc7e4746f067b57", func := "ambry/ambrylaw15.PolicyServes", spec := "policyServes", unfollowed := true, recurses := true, apart := false, narrowed := true }
def PolicyServesUptoSaid : Prop := policyServesUptoRow.holds Try.pinned (OpenSpec.upto policyServesSpec)

/-- 'ambrylaw15.PolicyEnds', WHERE WHAT IT READS IS OF BULK AT MOST 1048576: true; the input reads as it did. -/
def policyEndsUptoRow : OpenClaim := { program := "ytldnacphfoagnaf", sum := "3c0d92d83ae4db62870b6beefd6bb6f9c01ac85014b86f0a3bc7e4746f067b57", func := "ambry/ambrylaw15.PolicyEnds", spec := "policyEnds", unfollowed := true, recurses := true, apart := false, narrowed := true }
def PolicyEndsUptoSaid : Prop := policyEndsUptoRow.holds Try.pinned (OpenSpec.upto policyEndsSpec)

end Rows
end Go.Proofs.Ytldnacphfoagnaf
