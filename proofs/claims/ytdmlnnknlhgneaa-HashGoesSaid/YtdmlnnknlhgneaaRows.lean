/-
  No cell of these rows narrows 'for every input' (looked for: loops, veiled, ifaces, maps, wideKeys, modest, calm, conditions, laid).
  DERIVED. THE GIVEN ROWS OF THIS SEAT. 6 by the template 'for every input the law returns true; each argument reads behind the call as it read before'; 0 by the template 'total and deterministic' (their statements: YtdmlnnknlhgneaaTotals.lean).
  GIVEN WITH THE SEED: the statements are not yours to turn. If you find one false, say at which input.
  Laid BY PROGRAM, IN A SANDBOX (cutbox-rows.mjs): the forced cells as the released guide's own fill.sh prints them over the translation d49dad43c52cc627… (all of the seat's roots in one cut). By AI agents, Wed Nov 11 2026. No macro, syntax, notation, axiom, sorry.
-/
import Derived.Test.YtdmlnnknlhgneaaChecked
import GoSem.Claim
import GoSem.ClaimJoined
import GoSem.ClaimMapViews
import Derived.JoinedTies
import Derived.KernelRfl
namespace Go.Proofs.Ytdmlnnknlhgneaa
/- THE CELL 'sum', in the pinned program and in every row, IS THE sha256 OF THE DUMP (.gsa) THAT YtdmlnnknlhgneaaProg.lean LOADS. Nothing in Lean hashes anything: it is a label: what it is worth is what the hold of that sum in a sandbox is worth. -/
noncomputable def Try.pinned : Pinned := { name := "ytdmlnnknlhgneaa", sum := "d49dad43c52cc627ad45e618fabb34b6ba6e84c5e72f9ddad6c2f4ce1a5a6932", checked := Try.checked }
namespace Rows
def none {H : Type} : Left H := { results := [], args := [] }

/-- 'ambrylaw04.HashOf': WHATEVER THE INPUT: true; the input reads as it did. -/
def hashOfSpec : ChangeSpec := { name := "hashOf", fn := fun _ => fun
  | [d] => { results := [.lit (.bool true)], args := [d] }
  | _ => none }
def hashOfRow : OpenClaim := { program := "ytdmlnnknlhgneaa", sum := "d49dad43c52cc627ad45e618fabb34b6ba6e84c5e72f9ddad6c2f4ce1a5a6932", func := "ambry/ambrylaw04.HashOf", spec := "hashOf", apart := false }
def HashOfSaid : Prop := hashOfRow.holds Try.pinned (OpenSpec.ofChange hashOfSpec)

/-- ITS FALSE NEIGHBOUR: 'it returns false'. Refute it at one input. -/
def hashOfWrong : ChangeSpec := { name := "hashOf", fn := fun _ => fun
  | [d] => { results := [.lit (.bool false)], args := [d] }
  | _ => none }
def HashOfWrongFalsely : Prop := hashOfRow.holds Try.pinned (OpenSpec.ofChange hashOfWrong)

/-- 'ambrylaw04.HashParts': WHATEVER THE INPUT: true; the input reads as it did. -/
def hashPartsSpec : ChangeSpec := { name := "hashParts", fn := fun _ => fun
  | [d1, d2, d3] => { results := [.lit (.bool true)], args := [d1, d2, d3] }
  | _ => none }
def hashPartsRow : OpenClaim := { program := "ytdmlnnknlhgneaa", sum := "d49dad43c52cc627ad45e618fabb34b6ba6e84c5e72f9ddad6c2f4ce1a5a6932", func := "ambry/ambrylaw04.HashParts", spec := "hashParts", apart := false }
def HashPartsSaid : Prop := hashPartsRow.holds Try.pinned (OpenSpec.ofChange hashPartsSpec)

/-- ITS FALSE NEIGHBOUR: 'it returns false'. Refute it at one input. -/
def hashPartsWrong : ChangeSpec := { name := "hashParts", fn := fun _ => fun
  | [d1, d2, d3] => { results := [.lit (.bool false)], args := [d1, d2, d3] }
  | _ => none }
def HashPartsWrongFalsely : Prop := hashPartsRow.holds Try.pinned (OpenSpec.ofChange hashPartsWrong)

/-- 'ambrylaw04.HashSplits': WHATEVER THE INPUT: true; the input reads as it did. -/
def hashSplitsSpec : ChangeSpec := { name := "hashSplits", fn := fun _ => fun
  | [d1, d2, d3] => { results := [.lit (.bool true)], args := [d1, d2, d3] }
  | _ => none }
def hashSplitsRow : OpenClaim := { program := "ytdmlnnknlhgneaa", sum := "d49dad43c52cc627ad45e618fabb34b6ba6e84c5e72f9ddad6c2f4ce1a5a6932", func := "ambry/ambrylaw04.HashSplits", spec := "hashSplits", apart := false }
def HashSplitsSaid : Prop := hashSplitsRow.holds Try.pinned (OpenSpec.ofChange hashSplitsSpec)

/-- ITS FALSE NEIGHBOUR: 'it returns false'. Refute it at one input. -/
def hashSplitsWrong : ChangeSpec := { name := "hashSplits", fn := fun _ => fun
  | [d1, d2, d3] => { results := [.lit (.bool false)], args := [d1, d2, d3] }
  | _ => none }
def HashSplitsWrongFalsely : Prop := hashSplitsRow.holds Try.pinned (OpenSpec.ofChange hashSplitsWrong)

/-- 'ambrylaw04.HashByte': WHATEVER THE INPUT: true; the input reads as it did. -/
def hashByteSpec : ChangeSpec := { name := "hashByte", fn := fun _ => fun
  | [d1, d2, d3] => { results := [.lit (.bool true)], args := [d1, d2, d3] }
  | _ => none }
def hashByteRow : OpenClaim := { program := "ytdmlnnknlhgneaa", sum := "d49dad43c52cc627ad45e618fabb34b6ba6e84c5e72f9ddad6c2f4ce1a5a6932", func := "ambry/ambrylaw04.HashByte", spec := "hashByte", apart := false }
def HashByteSaid : Prop := hashByteRow.holds Try.pinned (OpenSpec.ofChange hashByteSpec)

/-- ITS FALSE NEIGHBOUR: 'it returns false'. Refute it at one input. -/
def hashByteWrong : ChangeSpec := { name := "hashByte", fn := fun _ => fun
  | [d1, d2, d3] => { results := [.lit (.bool false)], args := [d1, d2, d3] }
  | _ => none }
def HashByteWrongFalsely : Prop := hashByteRow.holds Try.pinned (OpenSpec.ofChange hashByteWrong)

/-- 'ambrylaw04.HashGoes': WHATEVER THE INPUT: true; the input reads as it did. -/
def hashGoesSpec : ChangeSpec := { name := "hashGoes", fn := fun _ => fun
  | [d1, d2] => { results := [.lit (.bool true)], args := [d1, d2] }
  | _ => none }
def hashGoesRow : OpenClaim := { program := "ytdmlnnknlhgneaa", sum := "d49dad43c52cc627ad45e618fabb34b6ba6e84c5e72f9ddad6c2f4ce1a5a6932", func := "ambry/ambrylaw04.HashGoes", spec := "hashGoes", apart := false }
def HashGoesSaid : Prop := hashGoesRow.holds Try.pinned (OpenSpec.ofChange hashGoesSpec)

/-- ITS FALSE NEIGHBOUR: 'it returns false'. Refute it at one input. -/
def hashGoesWrong : ChangeSpec := { name := "hashGoes", fn := fun _ => fun
  | [d1, d2] => { results := [.lit (.bool false)], args := [d1, d2] }
  | _ => none }
def HashGoesWrongFalsely : Prop := hashGoesRow.holds Try.pinned (OpenSpec.ofChange hashGoesWrong)

/-- 'ambrylaw04.HashOne': WHATEVER THE INPUT: true; the input reads as it did. -/
def hashOneSpec : ChangeSpec := { name := "hashOne", fn := fun _ => fun
  | [d1, d2, d3, d4] => { results := [.lit (.bool true)], args := [d1, d2, d3, d4] }
  | _ => none }
def hashOneRow : OpenClaim := { program := "ytdmlnnknlhgneaa", sum := "d49dad43c52cc627ad45e618fabb34b6ba6e84c5e72f9ddad6c2f4ce1a5a6932", func := "ambry/ambrylaw04.HashOne", spec := "hashOne", apart := false }
def HashOneSaid : Prop := hashOneRow.holds Try.pinned (OpenSpec.ofChange hashOneSpec)

/-- ITS FALSE NEIGHBOUR: 'it returns false'. Refute it at one input. -/
def hashOneWrong : ChangeSpec := { name := "hashOne", fn := fun _ => fun
  | [d1, d2, d3, d4] => { results := [.lit (.bool false)], args := [d1, d2, d3, d4] }
  | _ => none }
def HashOneWrongFalsely : Prop := hashOneRow.holds Try.pinned (OpenSpec.ofChange hashOneWrong)

/- THE SECOND FORM. 'bulk': how many values and letters a reading holds, each counted each time it is reached (what is shared counts as often as it is met; a slice's spare places count too). A statement '..UptoSaid' is the law's where the arguments, and the package variables that the reading takes, are together of bulk at most 1048576: NARROWER than '..Said'. Prove '..Said' where nothing that the law and all that it calls make is longer than what came in: it says more and counts as full. Else prove '..UptoSaid'. A law counts once. -/
mutual
def uptoBulk {H : Type} : DataW H → Nat
  | .lit (.string bytes) => bytes.length + 1
  | .lit _ => 1
  | .nil => 1
  | .ptr d => uptoBulk d + 1
  | .slice elems spare => uptoBulkAll elems + uptoBulkAll spare + 1
  | .agg parts => uptoBulkAll parts + 1
  | .iface _ d => uptoBulk d + 1
  | .map entries => uptoBulkEntries entries + 1
  | .held _ => 1
def uptoBulkAll {H : Type} : List (DataW H) → Nat
  | [] => 0
  | d :: r => uptoBulk d + uptoBulkAll r
def uptoBulkEntries {H : Type} : List (Lit × DataW H) → Nat
  | [] => 0
  | x :: r => uptoBulkEntry x + uptoBulkEntries r
def uptoBulkEntry {H : Type} : Lit × DataW H → Nat
  | (.string bytes, d) => bytes.length + uptoBulk d + 1
  | (_, d) => uptoBulk d + 1
 end
def uptoSmall : (H : Type) → List (DataW H) → Bool := fun _ ds => decide (uptoBulkAll ds ≤ 1048576)
def OpenSpec.upto (s : _root_.Go.ChangeSpec) : _root_.Go.OpenSpec := { _root_.Go.OpenSpec.ofChange s with cond := some uptoSmall }

/-- 'ambrylaw04.HashOf', WHERE WHAT IT READS IS OF BULK AT MOST 1048576: true; the input reads as it did. -/
def hashOfUptoRow : OpenClaim := { program := "ytdmlnnknlhgneaa", sum := "d49dad43c52cc627ad45e618fabb34b6ba6e84c5e72f9ddad6c2f4ce1a5a6932", func := "ambry/ambrylaw04.HashOf", spec := "hashOf", apart := false, narrowed := true }
def HashOfUptoSaid : Prop := hashOfUptoRow.holds Try.pinned (OpenSpec.upto hashOfSpec)

/-- 'ambrylaw04.HashParts', WHERE WHAT IT READS IS OF BULK AT MOST 1048576: true; the input reads as it did. -/
def hashPartsUptoRow : OpenClaim := { program := "ytdmlnnknlhgneaa", sum := "d49dad43c52cc627ad45e618fabb34b6ba6e84c5e72f9ddad6c2f4ce1a5a6932", func := "ambry/ambrylaw04.HashParts", spec := "hashParts", apart := false, narrowed := true }
def HashPartsUptoSaid : Prop := hashPartsUptoRow.holds Try.pinned (OpenSpec.upto hashPartsSpec)

/-- 'ambrylaw04.HashSplits', WHERE WHAT IT READS IS OF BULK AT MOST 1048576: true; the input reads as it did. -/
def hashSplitsUptoRow : OpenClaim := { program := "ytdmlnnknlhgneaa", sum := "d49dad43c52cc627ad45e618fabb34b6ba6e84c5e72f9ddad6c2f4ce1a5a6932", func := "ambry/ambrylaw04.HashSplits", spec := "hashSplits", apart := false, narrowed := true }
def HashSplitsUptoSaid : Prop := hashSplitsUptoRow.holds Try.pinned (OpenSpec.upto hashSplitsSpec)

/-- 'ambrylaw04.HashByte', WHERE WHAT IT READS IS OF BULK AT MOST 1048576: true; the input reads as it did. -/
def hashByteUptoRow : OpenClaim := { program := "ytdmlnnknlhgneaa", sum := "d49dad43c52cc627ad45e618fabb34b6ba6e84c5e72f9ddad6c2f4ce1a5a6932", func := "ambry/ambrylaw04.HashByte", spec := "hashByte", apart := false, narrowed := true }
def HashByteUptoSaid : Prop := hashByteUptoRow.holds Try.pinned (OpenSpec.upto hashByteSpec)

/-- 'ambrylaw04.HashGoes', WHERE WHAT IT READS IS OF BULK AT MOST 1048576: true; the input reads as it did. -/
def hashGoesUptoRow : OpenClaim := { program := "ytdmlnnknlhgneaa", sum := "d49dad43c52cc627ad45e618fabb34b6ba6e84c5e72f9ddad6c2f4ce1a5a6932", func := "ambry/ambrylaw04.HashGoes", spec := "hashGoes", apart := false, narrowed := true }
def HashGoesUptoSaid : Prop := hashGoesUptoRow.holds Try.pinned (OpenSpec.upto hashGoesSpec)

/-- 'ambrylaw04.HashOne', WHERE WHAT IT READS IS OF BULK AT MOST 1048576: true; the input reads as it did. -/
def hashOneUptoRow : OpenClaim := { program := "ytdmlnnknlhgneaa", sum := "d49dad43c52cc627ad45e618fabb34b6ba6e84c5e72f9ddad6c2f4ce1a5a6932", func := "ambry/ambrylaw04.HashOne", spec := "hashOne", apart := false, narrowed := true }
def HashOneUptoSaid : Prop := hashOneUptoRow.holds Try.pinned (OpenSpec.upto hashOneSpec)

end Rows
end Go.Proofs.Ytdmlnnknlhgneaa
