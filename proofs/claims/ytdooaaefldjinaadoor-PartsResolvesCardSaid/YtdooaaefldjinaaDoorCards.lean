/-
  DERIVED. GIVEN WITH THE SEED: THE CARDS: each row of YtdooaaefldjinaaDoorRows.lean that lists a variable, with what it lists TIED to the program's text (the seventh form; the later family's looks); each row that meets fmt, with fmt's text TOLD by the authors' own Lean function (tested against real Go, not proved from fmt's source: count such statements apart). THE CARD IS WHAT COUNTS. Prove the row's statement (the work); the ties are given (YtdooaaefldjinaaDoorTie.lean); close each card by the builder's one call (the guide's Derived/Test/ToyasCard.lean, 'card_holds'). Laid BY PROGRAM, IN A SANDBOX (cutbox-door.mjs). By AI agents, Wed Nov 11 2026. No macro, syntax, notation, axiom, sorry.
-/
import Derived.Test.YtdooaaefldjinaaDoorRows
import GoSem.ClaimSeven
namespace Go.Proofs.YtdooaaefldjinaaDoor
namespace Rows

/-- THE TIED CARD OF 'rubricatorlaw12.PartsResolves'. -/
def partsResolvesCard : Claim7 := { stood := { row := partsResolvesRow, standIns := [], harness := (true, "b74a32c40138936c5b6019e5b41a049f1ad8f5f27f855bed72db69e9489f2929"), looks := false }, kinds := [], alts := [], laidByText := true, laidKinds := [.data, .pinned], laidTests := true, laidLooks := .later }
def PartsResolvesCardSaid : Prop := Claim7.holds Tryd.pinned (.plain (OpenSpec.ofChange partsResolvesSpec)) partsResolvesCard

/-- THE TIED CARD OF 'rubricatorlaw12.PartsAbsolute'. -/
def partsAbsoluteCard : Claim7 := { stood := { row := partsAbsoluteRow, standIns := [], harness := (true, "b74a32c40138936c5b6019e5b41a049f1ad8f5f27f855bed72db69e9489f2929"), looks := false }, kinds := [], alts := [], laidByText := true, laidKinds := [.data, .pinned], laidTests := true, laidLooks := .later }
def PartsAbsoluteCardSaid : Prop := Claim7.holds Tryd.pinned (.plain (OpenSpec.ofChange partsAbsoluteSpec)) partsAbsoluteCard

/-- THE TIED CARD OF 'rubricatorlaw12.PartsUp'. -/
def partsUpCard : Claim7 := { stood := { row := partsUpRow, standIns := [], harness := (true, "b74a32c40138936c5b6019e5b41a049f1ad8f5f27f855bed72db69e9489f2929"), looks := false }, kinds := [], alts := [], laidByText := true, laidKinds := [.data, .pinned], laidTests := true, laidLooks := .later }
def PartsUpCardSaid : Prop := Claim7.holds Tryd.pinned (.plain (OpenSpec.ofChange partsUpSpec)) partsUpCard

/-- THE TIED CARD OF 'rubricatorlaw12.PartsRelated'. -/
def partsRelatedCard : Claim7 := { stood := { row := partsRelatedRow, standIns := [], harness := (true, "b74a32c40138936c5b6019e5b41a049f1ad8f5f27f855bed72db69e9489f2929"), looks := false }, kinds := [], alts := [], laidByText := true, laidKinds := [.data, .pinned], laidTests := true, laidLooks := .later }
def PartsRelatedCardSaid : Prop := Claim7.holds Tryd.pinned (.plain (OpenSpec.ofChange partsRelatedSpec)) partsRelatedCard

/-- THE TIED CARD OF 'rubricatorlaw12.PartsNames'. -/
def partsNamesCard : Claim7 := { stood := { row := partsNamesRow, standIns := [], harness := (true, "b74a32c40138936c5b6019e5b41a049f1ad8f5f27f855bed72db69e9489f2929"), looks := false }, kinds := [], alts := [], laidByText := true, laidKinds := [.data, .pinned], laidTests := true, laidLooks := .later }
def PartsNamesCardSaid : Prop := Claim7.holds Tryd.pinned (.plain (OpenSpec.ofChange partsNamesSpec)) partsNamesCard

/-- THE SECOND FORM's CARD OF 'rubricatorlaw12.PartsResolves'. -/
def partsResolvesUptoCard : Claim7 := { stood := { row := partsResolvesUptoRow, standIns := [], harness := (true, "b74a32c40138936c5b6019e5b41a049f1ad8f5f27f855bed72db69e9489f2929"), looks := false }, kinds := [], alts := [], laidByText := true, laidKinds := [.data, .pinned], laidTests := true, laidLooks := .later }
def PartsResolvesUptoCardSaid : Prop := Claim7.holds Tryd.pinned (.plain (OpenSpec.upto partsResolvesSpec)) partsResolvesUptoCard

/-- THE SECOND FORM's CARD OF 'rubricatorlaw12.PartsAbsolute'. -/
def partsAbsoluteUptoCard : Claim7 := { stood := { row := partsAbsoluteUptoRow, standIns := [], harness := (true, "b74a32c40138936c5b6019e5b41a049f1ad8f5f27f855bed72db69e9489f2929"), looks := false }, kinds := [], alts := [], laidByText := true, laidKinds := [.data, .pinned], laidTests := true, laidLooks := .later }
def PartsAbsoluteUptoCardSaid : Prop := Claim7.holds Tryd.pinned (.plain (OpenSpec.upto partsAbsoluteSpec)) partsAbsoluteUptoCard

/-- THE SECOND FORM's CARD OF 'rubricatorlaw12.PartsUp'. -/
def partsUpUptoCard : Claim7 := { stood := { row := partsUpUptoRow, standIns := [], harness := (true, "b74a32c40138936c5b6019e5b41a049f1ad8f5f27f855bed72db69e9489f2929"), looks := false }, kinds := [], alts := [], laidByText := true, laidKinds := [.data, .pinned], laidTests := true, laidLooks := .later }
def PartsUpUptoCardSaid : Prop := Claim7.holds Tryd.pinned (.plain (OpenSpec.upto partsUpSpec)) partsUpUptoCard

/-- THE SECOND FORM's CARD OF 'rubricatorlaw12.PartsRelated'. -/
def partsRelatedUptoCard : Claim7 := { stood := { row := partsRelatedUptoRow, standIns := [], harness := (true, "b74a32c40138936c5b6019e5b41a049f1ad8f5f27f855bed72db69e9489f2929"), looks := false }, kinds := [], alts := [], laidByText := true, laidKinds := [.data, .pinned], laidTests := true, laidLooks := .later }
def PartsRelatedUptoCardSaid : Prop := Claim7.holds Tryd.pinned (.plain (OpenSpec.upto partsRelatedSpec)) partsRelatedUptoCard

/-- THE SECOND FORM's CARD OF 'rubricatorlaw12.PartsNames'. -/
def partsNamesUptoCard : Claim7 := { stood := { row := partsNamesUptoRow, standIns := [], harness := (true, "b74a32c40138936c5b6019e5b41a049f1ad8f5f27f855bed72db69e9489f2929"), looks := false }, kinds := [], alts := [], laidByText := true, laidKinds := [.data, .pinned], laidTests := true, laidLooks := .later }
def PartsNamesUptoCardSaid : Prop := Claim7.holds Tryd.pinned (.plain (OpenSpec.upto partsNamesSpec)) partsNamesUptoCard
end Rows
end Go.Proofs.YtdooaaefldjinaaDoor
