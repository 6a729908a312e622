/-
  DERIVED. GIVEN WITH THE SEED: THE CARDS: each row of YtahgfbficidjlaaDoorRows.lean that lists a variable, with what it lists TIED to the program's text (the seventh form; the later family's looks); each row that meets fmt, with fmt's text TOLD by the authors' own Lean function (tested against real Go, not proved from fmt's source: count such statements apart). THE CARD IS WHAT COUNTS. Prove the row's statement (the work); the ties are given (YtahgfbficidjlaaDoorTie.lean); close each card by the builder's one call (the guide's Derived/Test/ToyasCard.lean, 'card_holds'). Laid BY PROGRAM, IN A SANDBOX (cutbox-door.mjs). By AI agents, Wed Nov 11 2026. No macro, syntax, notation, axiom, sorry.
-/
import Derived.Test.YtahgfbficidjlaaDoorRows
import GoSem.ClaimSeven
namespace Go.Proofs.YtahgfbficidjlaaDoor
namespace Rows

/-- THE TIED CARD OF 'rubricatorlaw14.StyleChecks'. -/
def styleChecksCard : Claim7 := { stood := { row := styleChecksRow, standIns := [], harness := (true, "dcf37f6ba6a6ee647879e2dc73ebe64884a78720773d776cf8ce2c1054cba245"), looks := false }, kinds := [], alts := [], laidByText := true, laidKinds := [.data, .data, .data], laidTests := true, laidLooks := .later }
def StyleChecksCardSaid : Prop := Claim7.holds Tryd.pinned (.plain (OpenSpec.ofChange styleChecksSpec)) styleChecksCard

/-- THE TIED CARD OF 'rubricatorlaw14.StyleStandard'. -/
def styleStandardCard : Claim7 := { stood := { row := styleStandardRow, standIns := [], harness := (true, "dcf37f6ba6a6ee647879e2dc73ebe64884a78720773d776cf8ce2c1054cba245"), looks := false }, kinds := [], alts := [], laidByText := true, laidKinds := [.data, .data, .data], laidTests := true, laidLooks := .later }
def StyleStandardCardSaid : Prop := Claim7.holds Tryd.pinned (.plain (OpenSpec.ofChange styleStandardSpec)) styleStandardCard

/-- THE TIED CARD OF 'rubricatorlaw14.StyleRuns'. -/
def styleRunsCard : Claim7 := { stood := { row := styleRunsRow, standIns := [], harness := (true, "dcf37f6ba6a6ee647879e2dc73ebe64884a78720773d776cf8ce2c1054cba245"), looks := false }, kinds := [], alts := [], laidByText := true, laidKinds := [.data, .data, .data], laidTests := true, laidLooks := .later }
def StyleRunsCardSaid : Prop := Claim7.holds Tryd.pinned (.plain (OpenSpec.ofChange styleRunsSpec)) styleRunsCard

/-- THE TIED CARD OF 'rubricatorlaw14.StyleToggles'. -/
def styleTogglesCard : Claim7 := { stood := { row := styleTogglesRow, standIns := [], harness := (true, "dcf37f6ba6a6ee647879e2dc73ebe64884a78720773d776cf8ce2c1054cba245"), looks := false }, kinds := [], alts := [], laidByText := true, laidKinds := [.data, .data, .data], laidTests := true, laidLooks := .later }
def StyleTogglesCardSaid : Prop := Claim7.holds Tryd.pinned (.plain (OpenSpec.ofChange styleTogglesSpec)) styleTogglesCard

/-- THE TIED CARD OF 'rubricatorlaw14.StyleRings'. -/
def styleRingsCard : Claim7 := { stood := { row := styleRingsRow, standIns := [], harness := (true, "dcf37f6ba6a6ee647879e2dc73ebe64884a78720773d776cf8ce2c1054cba245"), looks := false }, kinds := [], alts := [], laidByText := true, laidKinds := [.data, .data, .data], laidTests := true, laidLooks := .later }
def StyleRingsCardSaid : Prop := Claim7.holds Tryd.pinned (.plain (OpenSpec.ofChange styleRingsSpec)) styleRingsCard

/-- THE SECOND FORM's CARD OF 'rubricatorlaw14.StyleChecks'. -/
def styleChecksUptoCard : Claim7 := { stood := { row := styleChecksUptoRow, standIns := [], harness := (true, "dcf37f6ba6a6ee647879e2dc73ebe64884a78720773d776cf8ce2c1054cba245"), looks := false }, kinds := [], alts := [], laidByText := true, laidKinds := [.data, .data, .data], laidTests := true, laidLooks := .later }
def StyleChecksUptoCardSaid : Prop := Claim7.holds Tryd.pinned (.plain (OpenSpec.upto styleChecksSpec)) styleChecksUptoCard

/-- THE SECOND FORM's CARD OF 'rubricatorlaw14.StyleStandard'. -/
def styleStandardUptoCard : Claim7 := { stood := { row := styleStandardUptoRow, standIns := [], harness := (true, "dcf37f6ba6a6ee647879e2dc73ebe64884a78720773d776cf8ce2c1054cba245"), looks := false }, kinds := [], alts := [], laidByText := true, laidKinds := [.data, .data, .data], laidTests := true, laidLooks := .later }
def StyleStandardUptoCardSaid : Prop := Claim7.holds Tryd.pinned (.plain (OpenSpec.upto styleStandardSpec)) styleStandardUptoCard

/-- THE SECOND FORM's CARD OF 'rubricatorlaw14.StyleRuns'. -/
def styleRunsUptoCard : Claim7 := { stood := { row := styleRunsUptoRow, standIns := [], harness := (true, "dcf37f6ba6a6ee647879e2dc73ebe64884a78720773d776cf8ce2c1054cba245"), looks := false }, kinds := [], alts := [], laidByText := true, laidKinds := [.data, .data, .data], laidTests := true, laidLooks := .later }
def StyleRunsUptoCardSaid : Prop := Claim7.holds Tryd.pinned (.plain (OpenSpec.upto styleRunsSpec)) styleRunsUptoCard

/-- THE SECOND FORM's CARD OF 'rubricatorlaw14.StyleToggles'. -/
def styleTogglesUptoCard : Claim7 := { stood := { row := styleTogglesUptoRow, standIns := [], harness := (true, "dcf37f6ba6a6ee647879e2dc73ebe64884a78720773d776cf8ce2c1054cba245"), looks := false }, kinds := [], alts := [], laidByText := true, laidKinds := [.data, .data, .data], laidTests := true, laidLooks := .later }
def StyleTogglesUptoCardSaid : Prop := Claim7.holds Tryd.pinned (.plain (OpenSpec.upto styleTogglesSpec)) styleTogglesUptoCard

/-- THE SECOND FORM's CARD OF 'rubricatorlaw14.StyleRings'. -/
def styleRingsUptoCard : Claim7 := { stood := { row := styleRingsUptoRow, standIns := [], harness := (true, "dcf37f6ba6a6ee647879e2dc73ebe64884a78720773d776cf8ce2c1054cba245"), looks := false }, kinds := [], alts := [], laidByText := true, laidKinds := [.data, .data, .data], laidTests := true, laidLooks := .later }
def StyleRingsUptoCardSaid : Prop := Claim7.holds Tryd.pinned (.plain (OpenSpec.upto styleRingsSpec)) styleRingsUptoCard
end Rows
end Go.Proofs.YtahgfbficidjlaaDoor
