/-
  DERIVED. GIVEN WITH THE SEED: THE CARDS: each row of YtofklonjmdefgaaDoorRows.lean that lists a variable, with what it lists TIED to the program's text (the seventh form; the later family's looks); each row that meets fmt, with fmt's text TOLD by the authors' own Lean function (tested against real Go, not proved from fmt's source: count such statements apart). THE CARD IS WHAT COUNTS. Prove the row's statement (the work); the ties are given (YtofklonjmdefgaaDoorTie.lean); close each card by the builder's one call (the guide's Derived/Test/ToyasCard.lean, 'card_holds'). Laid BY PROGRAM, IN A SANDBOX (cutbox-door.mjs). By AI agents, Wed Nov 11 2026. No macro, syntax, notation, axiom, sorry.
-/
import Derived.Test.YtofklonjmdefgaaDoorRows
import GoSem.ClaimSeven
namespace Go.Proofs.YtofklonjmdefgaaDoor
namespace Rows

/-- THE TIED CARD OF 'rubricatorlaw18.LeafMarkers'. -/
def leafMarkersCard : Claim7 := { stood := { row := leafMarkersRow, standIns := [], harness := (true, "722f14bb63ecc42f14842756e62f435c33b22d8b9a31d9093e84b80e4b7060d7"), looks := false }, kinds := [], alts := [], laidByText := true, laidKinds := [.data, .pinned], laidTests := true, laidLooks := .later }
def LeafMarkersCardSaid : Prop := Claim7.holds Tryd.pinned (.plain (OpenSpec.ofChange leafMarkersSpec)) leafMarkersCard

/-- THE TIED CARD OF 'rubricatorlaw18.LeafNumbers'. -/
def leafNumbersCard : Claim7 := { stood := { row := leafNumbersRow, standIns := [], harness := (true, "722f14bb63ecc42f14842756e62f435c33b22d8b9a31d9093e84b80e4b7060d7"), looks := false }, kinds := [], alts := [], laidByText := true, laidKinds := [.data, .pinned], laidTests := true, laidLooks := .later }
def LeafNumbersCardSaid : Prop := Claim7.holds Tryd.pinned (.plain (OpenSpec.ofChange leafNumbersSpec)) leafNumbersCard

/-- THE TIED CARD OF 'rubricatorlaw18.LeafClosed'. -/
def leafClosedCard : Claim7 := { stood := { row := leafClosedRow, standIns := [], harness := (true, "722f14bb63ecc42f14842756e62f435c33b22d8b9a31d9093e84b80e4b7060d7"), looks := false }, kinds := [], alts := [], laidByText := true, laidKinds := [.data, .pinned], laidTests := true, laidLooks := .later }
def LeafClosedCardSaid : Prop := Claim7.holds Tryd.pinned (.plain (OpenSpec.ofChange leafClosedSpec)) leafClosedCard

/-- THE SECOND FORM's CARD OF 'rubricatorlaw18.LeafMarkers'. -/
def leafMarkersUptoCard : Claim7 := { stood := { row := leafMarkersUptoRow, standIns := [], harness := (true, "722f14bb63ecc42f14842756e62f435c33b22d8b9a31d9093e84b80e4b7060d7"), looks := false }, kinds := [], alts := [], laidByText := true, laidKinds := [.data, .pinned], laidTests := true, laidLooks := .later }
def LeafMarkersUptoCardSaid : Prop := Claim7.holds Tryd.pinned (.plain (OpenSpec.upto leafMarkersSpec)) leafMarkersUptoCard

/-- THE SECOND FORM's CARD OF 'rubricatorlaw18.LeafNumbers'. -/
def leafNumbersUptoCard : Claim7 := { stood := { row := leafNumbersUptoRow, standIns := [], harness := (true, "722f14bb63ecc42f14842756e62f435c33b22d8b9a31d9093e84b80e4b7060d7"), looks := false }, kinds := [], alts := [], laidByText := true, laidKinds := [.data, .pinned], laidTests := true, laidLooks := .later }
def LeafNumbersUptoCardSaid : Prop := Claim7.holds Tryd.pinned (.plain (OpenSpec.upto leafNumbersSpec)) leafNumbersUptoCard

/-- THE SECOND FORM's CARD OF 'rubricatorlaw18.LeafClosed'. -/
def leafClosedUptoCard : Claim7 := { stood := { row := leafClosedUptoRow, standIns := [], harness := (true, "722f14bb63ecc42f14842756e62f435c33b22d8b9a31d9093e84b80e4b7060d7"), looks := false }, kinds := [], alts := [], laidByText := true, laidKinds := [.data, .pinned], laidTests := true, laidLooks := .later }
def LeafClosedUptoCardSaid : Prop := Claim7.holds Tryd.pinned (.plain (OpenSpec.upto leafClosedSpec)) leafClosedUptoCard
end Rows
end Go.Proofs.YtofklonjmdefgaaDoor
