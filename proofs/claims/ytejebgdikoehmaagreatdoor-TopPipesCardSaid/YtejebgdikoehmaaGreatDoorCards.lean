/-
  DERIVED. GIVEN WITH THE SEED: THE CARDS: each row of YtejebgdikoehmaaGreatDoorRows.lean that lists a variable, with what it lists TIED to the program's text (the seventh form; the later family's looks); each row that meets fmt, with fmt's text TOLD by the authors' own Lean function (tested against real Go, not proved from fmt's source: count such statements apart). THE CARD IS WHAT COUNTS. Prove the row's statement (the work); the ties are given (YtejebgdikoehmaaGreatDoorTie.lean); close each card by the builder's one call (the guide's Derived/Test/ToyasCard.lean, 'card_holds'). Laid BY PROGRAM, IN A SANDBOX (cutbox-door.mjs). By AI agents, Wed Nov 11 2026. No macro, syntax, notation, axiom, sorry.
-/
import Derived.Test.YtejebgdikoehmaaGreatDoorRows
import GoSem.ClaimSeven
namespace Go.Proofs.YtejebgdikoehmaaGreatDoor
namespace Rows

/-- THE TIED CARD OF 'ambrytop.TopWins'. -/
def topWinsCard : Claim7 := { stood := { row := topWinsRow, standIns := [], harness := (true, "60a293dc866a81ccb32ef45366b5d2fbd4274256021dad2770e007584f176b78"), looks := true }, kinds := [], alts := [], laidByText := true, laidKinds := [.data, .data, .data, .data, .sentinel, .sentinel, .pinned], laidTests := true, laidLooks := .later }
def TopWinsCardSaid : Prop := Claim7.holds Tryz.pinned (.plain (OpenSpec.ofChange topWinsSpec)) topWinsCard

/-- THE TIED CARD OF 'ambrytop.TopAdds'. -/
def topAddsCard : Claim7 := { stood := { row := topAddsRow, standIns := [], harness := (true, "60a293dc866a81ccb32ef45366b5d2fbd4274256021dad2770e007584f176b78"), looks := true }, kinds := [], alts := [], laidByText := true, laidKinds := [.data, .data, .data, .data, .sentinel, .sentinel, .pinned], laidTests := true, laidLooks := .later }
def TopAddsCardSaid : Prop := Claim7.holds Tryz.pinned (.plain (OpenSpec.ofChange topAddsSpec)) topAddsCard

/-- THE TIED CARD OF 'ambrytop.TopPipes'. -/
def topPipesCard : Claim7 := { stood := { row := topPipesRow, standIns := [], harness := (true, "60a293dc866a81ccb32ef45366b5d2fbd4274256021dad2770e007584f176b78"), looks := true }, kinds := [], alts := [], laidByText := true, laidKinds := [.data, .data, .data, .data, .sentinel, .sentinel, .pinned], laidTests := true, laidLooks := .later }
def TopPipesCardSaid : Prop := Claim7.holds Tryz.pinned (.plain (OpenSpec.ofChange topPipesSpec)) topPipesCard

/-- THE SECOND FORM's CARD OF 'ambrytop.TopWins'. -/
def topWinsUptoCard : Claim7 := { stood := { row := topWinsUptoRow, standIns := [], harness := (true, "60a293dc866a81ccb32ef45366b5d2fbd4274256021dad2770e007584f176b78"), looks := true }, kinds := [], alts := [], laidByText := true, laidKinds := [.data, .data, .data, .data, .sentinel, .sentinel, .pinned], laidTests := true, laidLooks := .later }
def TopWinsUptoCardSaid : Prop := Claim7.holds Tryz.pinned (.plain (OpenSpec.upto topWinsSpec)) topWinsUptoCard

/-- THE SECOND FORM's CARD OF 'ambrytop.TopAdds'. -/
def topAddsUptoCard : Claim7 := { stood := { row := topAddsUptoRow, standIns := [], harness := (true, "60a293dc866a81ccb32ef45366b5d2fbd4274256021dad2770e007584f176b78"), looks := true }, kinds := [], alts := [], laidByText := true, laidKinds := [.data, .data, .data, .data, .sentinel, .sentinel, .pinned], laidTests := true, laidLooks := .later }
def TopAddsUptoCardSaid : Prop := Claim7.holds Tryz.pinned (.plain (OpenSpec.upto topAddsSpec)) topAddsUptoCard

/-- THE SECOND FORM's CARD OF 'ambrytop.TopPipes'. -/
def topPipesUptoCard : Claim7 := { stood := { row := topPipesUptoRow, standIns := [], harness := (true, "60a293dc866a81ccb32ef45366b5d2fbd4274256021dad2770e007584f176b78"), looks := true }, kinds := [], alts := [], laidByText := true, laidKinds := [.data, .data, .data, .data, .sentinel, .sentinel, .pinned], laidTests := true, laidLooks := .later }
def TopPipesUptoCardSaid : Prop := Claim7.holds Tryz.pinned (.plain (OpenSpec.upto topPipesSpec)) topPipesUptoCard
end Rows
end Go.Proofs.YtejebgdikoehmaaGreatDoor
