/-
  DERIVED. GIVEN WITH THE SEED: THE CARDS: each row of YtekkkohncfmmfaaDoorRows.lean that lists a variable, with what it lists TIED to the program's text (the seventh form; the later family's looks); each row that meets fmt, with fmt's text TOLD by the authors' own Lean function (tested against real Go, not proved from fmt's source: count such statements apart). THE CARD IS WHAT COUNTS. Prove the row's statement (the work); the ties are given (YtekkkohncfmmfaaDoorTie.lean); close each card by the builder's one call (the guide's Derived/Test/ToyasCard.lean, 'card_holds'). Laid BY PROGRAM, IN A SANDBOX (cutbox-door.mjs). By AI agents, Wed Nov 11 2026. No macro, syntax, notation, axiom, sorry.
-/
import Derived.Test.YtekkkohncfmmfaaDoorRows
import GoSem.ClaimSeven
namespace Go.Proofs.YtekkkohncfmmfaaDoor
namespace Rows

/-- THE TIED CARD OF 'rubricatorlaw7.UtfRepairs'. -/
def utfRepairsCard : Claim7 := { stood := { row := utfRepairsRow, standIns := [], harness := (true, "7872a6bc1956a6967d305ddcea861d8a68eda75fd85eb54ca55f875fa376c514"), looks := false }, kinds := [], alts := [], laidByText := true, laidKinds := [.data, .pinned], laidTests := true, laidLooks := .later }
def UtfRepairsCardSaid : Prop := Claim7.holds Tryd.pinned (.plain (OpenSpec.ofChange utfRepairsSpec)) utfRepairsCard

/-- THE TIED CARD OF 'rubricatorlaw7.UtfValid'. -/
def utfValidCard : Claim7 := { stood := { row := utfValidRow, standIns := [], harness := (true, "7872a6bc1956a6967d305ddcea861d8a68eda75fd85eb54ca55f875fa376c514"), looks := false }, kinds := [], alts := [], laidByText := true, laidKinds := [.data, .pinned], laidTests := true, laidLooks := .later }
def UtfValidCardSaid : Prop := Claim7.holds Tryd.pinned (.plain (OpenSpec.ofChange utfValidSpec)) utfValidCard

/-- THE TIED CARD OF 'rubricatorlaw7.UtfRunes'. -/
def utfRunesCard : Claim7 := { stood := { row := utfRunesRow, standIns := [], harness := (true, "7872a6bc1956a6967d305ddcea861d8a68eda75fd85eb54ca55f875fa376c514"), looks := false }, kinds := [], alts := [], laidByText := true, laidKinds := [.data, .pinned], laidTests := true, laidLooks := .later }
def UtfRunesCardSaid : Prop := Claim7.holds Tryd.pinned (.plain (OpenSpec.ofChange utfRunesSpec)) utfRunesCard

/-- THE SECOND FORM's CARD OF 'rubricatorlaw7.UtfRepairs'. -/
def utfRepairsUptoCard : Claim7 := { stood := { row := utfRepairsUptoRow, standIns := [], harness := (true, "7872a6bc1956a6967d305ddcea861d8a68eda75fd85eb54ca55f875fa376c514"), looks := false }, kinds := [], alts := [], laidByText := true, laidKinds := [.data, .pinned], laidTests := true, laidLooks := .later }
def UtfRepairsUptoCardSaid : Prop := Claim7.holds Tryd.pinned (.plain (OpenSpec.upto utfRepairsSpec)) utfRepairsUptoCard

/-- THE SECOND FORM's CARD OF 'rubricatorlaw7.UtfValid'. -/
def utfValidUptoCard : Claim7 := { stood := { row := utfValidUptoRow, standIns := [], harness := (true, "7872a6bc1956a6967d305ddcea861d8a68eda75fd85eb54ca55f875fa376c514"), looks := false }, kinds := [], alts := [], laidByText := true, laidKinds := [.data, .pinned], laidTests := true, laidLooks := .later }
def UtfValidUptoCardSaid : Prop := Claim7.holds Tryd.pinned (.plain (OpenSpec.upto utfValidSpec)) utfValidUptoCard

/-- THE SECOND FORM's CARD OF 'rubricatorlaw7.UtfRunes'. -/
def utfRunesUptoCard : Claim7 := { stood := { row := utfRunesUptoRow, standIns := [], harness := (true, "7872a6bc1956a6967d305ddcea861d8a68eda75fd85eb54ca55f875fa376c514"), looks := false }, kinds := [], alts := [], laidByText := true, laidKinds := [.data, .pinned], laidTests := true, laidLooks := .later }
def UtfRunesUptoCardSaid : Prop := Claim7.holds Tryd.pinned (.plain (OpenSpec.upto utfRunesSpec)) utfRunesUptoCard
end Rows
end Go.Proofs.YtekkkohncfmmfaaDoor
