/-
  DERIVED. GIVEN WITH THE SEED: THE CARDS: each row of YtbhopjcicdjjpaaDoorRows.lean that lists a variable, with what it lists TIED to the program's text (the seventh form; the later family's looks); each row that meets fmt, with fmt's text TOLD by the authors' own Lean function (tested against real Go, not proved from fmt's source: count such statements apart). THE CARD IS WHAT COUNTS. Prove the row's statement (the work); the ties are given (YtbhopjcicdjjpaaDoorTie.lean); close each card by the builder's one call (the guide's Derived/Test/ToyasCard.lean, 'card_holds'). Laid BY PROGRAM, IN A SANDBOX (cutbox-door.mjs). By AI agents, Wed Nov 11 2026. No macro, syntax, notation, axiom, sorry.
-/
import Derived.Test.YtbhopjcicdjjpaaDoorRows
import GoSem.ClaimSeven
namespace Go.Proofs.YtbhopjcicdjjpaaDoor
namespace Rows

/-- THE TIED CARD OF 'rubricatorlaw17.LineParts'. -/
def linePartsCard : Claim7 := { stood := { row := linePartsRow, standIns := [], harness := (true, "d468ca225dae889efd0a535b597055fe054df54aee123a22c231f1e6f68127a7"), looks := false }, kinds := [], alts := [], laidByText := true, laidKinds := [.data, .pinned], laidTests := true, laidLooks := .later }
def LinePartsCardSaid : Prop := Claim7.holds Tryd.pinned (.plain (OpenSpec.ofChange linePartsSpec)) linePartsCard

/-- THE TIED CARD OF 'rubricatorlaw17.LineTabs'. -/
def lineTabsCard : Claim7 := { stood := { row := lineTabsRow, standIns := [], harness := (true, "d468ca225dae889efd0a535b597055fe054df54aee123a22c231f1e6f68127a7"), looks := false }, kinds := [], alts := [], laidByText := true, laidKinds := [.data, .pinned], laidTests := true, laidLooks := .later }
def LineTabsCardSaid : Prop := Claim7.holds Tryd.pinned (.plain (OpenSpec.ofChange lineTabsSpec)) lineTabsCard

/-- THE TIED CARD OF 'rubricatorlaw17.LinePlays'. -/
def linePlaysCard : Claim7 := { stood := { row := linePlaysRow, standIns := [], harness := (true, "d468ca225dae889efd0a535b597055fe054df54aee123a22c231f1e6f68127a7"), looks := false }, kinds := [], alts := [], laidByText := true, laidKinds := [.data, .pinned], laidTests := true, laidLooks := .later }
def LinePlaysCardSaid : Prop := Claim7.holds Tryd.pinned (.plain (OpenSpec.ofChange linePlaysSpec)) linePlaysCard

/-- THE TIED CARD OF 'rubricatorlaw17.LineOfNothing'. -/
def lineOfNothingCard : Claim7 := { stood := { row := lineOfNothingRow, standIns := [], harness := (true, "d468ca225dae889efd0a535b597055fe054df54aee123a22c231f1e6f68127a7"), looks := false }, kinds := [], alts := [], laidByText := true, laidKinds := [.data, .pinned], laidTests := true, laidLooks := .later }
def LineOfNothingCardSaid : Prop := Claim7.holds Tryd.pinned (.plain (OpenSpec.ofChange lineOfNothingSpec)) lineOfNothingCard

/-- THE SECOND FORM's CARD OF 'rubricatorlaw17.LineParts'. -/
def linePartsUptoCard : Claim7 := { stood := { row := linePartsUptoRow, standIns := [], harness := (true, "d468ca225dae889efd0a535b597055fe054df54aee123a22c231f1e6f68127a7"), looks := false }, kinds := [], alts := [], laidByText := true, laidKinds := [.data, .pinned], laidTests := true, laidLooks := .later }
def LinePartsUptoCardSaid : Prop := Claim7.holds Tryd.pinned (.plain (OpenSpec.upto linePartsSpec)) linePartsUptoCard

/-- THE SECOND FORM's CARD OF 'rubricatorlaw17.LineTabs'. -/
def lineTabsUptoCard : Claim7 := { stood := { row := lineTabsUptoRow, standIns := [], harness := (true, "d468ca225dae889efd0a535b597055fe054df54aee123a22c231f1e6f68127a7"), looks := false }, kinds := [], alts := [], laidByText := true, laidKinds := [.data, .pinned], laidTests := true, laidLooks := .later }
def LineTabsUptoCardSaid : Prop := Claim7.holds Tryd.pinned (.plain (OpenSpec.upto lineTabsSpec)) lineTabsUptoCard

/-- THE SECOND FORM's CARD OF 'rubricatorlaw17.LinePlays'. -/
def linePlaysUptoCard : Claim7 := { stood := { row := linePlaysUptoRow, standIns := [], harness := (true, "d468ca225dae889efd0a535b597055fe054df54aee123a22c231f1e6f68127a7"), looks := false }, kinds := [], alts := [], laidByText := true, laidKinds := [.data, .pinned], laidTests := true, laidLooks := .later }
def LinePlaysUptoCardSaid : Prop := Claim7.holds Tryd.pinned (.plain (OpenSpec.upto linePlaysSpec)) linePlaysUptoCard

/-- THE SECOND FORM's CARD OF 'rubricatorlaw17.LineOfNothing'. -/
def lineOfNothingUptoCard : Claim7 := { stood := { row := lineOfNothingUptoRow, standIns := [], harness := (true, "d468ca225dae889efd0a535b597055fe054df54aee123a22c231f1e6f68127a7"), looks := false }, kinds := [], alts := [], laidByText := true, laidKinds := [.data, .pinned], laidTests := true, laidLooks := .later }
def LineOfNothingUptoCardSaid : Prop := Claim7.holds Tryd.pinned (.plain (OpenSpec.upto lineOfNothingSpec)) lineOfNothingUptoCard
end Rows
end Go.Proofs.YtbhopjcicdjjpaaDoor
