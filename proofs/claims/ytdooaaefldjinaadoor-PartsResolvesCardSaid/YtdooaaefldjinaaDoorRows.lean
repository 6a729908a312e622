/-
  NARROWER THAN 'FOR EVERY INPUT', by the rows' own cells (each row's printed sentence says how): PartsResolves: laid · PartsAbsolute: laid · PartsUp: laid · PartsRelated: laid · PartsNames: laid.
  DERIVED. THE GIVEN ROWS OF THIS SEAT. 5 by the template 'for every input the law returns true; each argument reads behind the call as it read before'; 0 by the template 'total and deterministic' (their statements: YtdooaaefldjinaaDoorTotals.lean).
  GIVEN WITH THE SEED: the statements are not yours to turn. If you find one false, say at which input.
  Laid BY PROGRAM, IN A SANDBOX (cutbox-rows.mjs): the forced cells as the released guide's own fill.sh prints them over the translation c886a7f270d125ee… (all of the seat's roots in one cut). By AI agents, Wed Nov 11 2026. No macro, syntax, notation, axiom, sorry.
-/
import Derived.Test.YtdooaaefldjinaaDoorChecked
import GoSem.PinnedTables
import GoSem.Claim
import GoSem.ClaimJoined
import GoSem.ClaimMapViews
import Derived.JoinedTies
import Derived.KernelRfl
namespace Go.Proofs.YtdooaaefldjinaaDoor
/- THE CELL 'sum', in the pinned program and in every row, IS THE sha256 OF THE DUMP (.gsa) THAT YtdooaaefldjinaaDoorProg.lean LOADS. Nothing in Lean hashes anything: it is a label: what it is worth is what the hold of that sum in a sandbox is worth. -/
noncomputable def Tryd.pinned : Pinned := { name := "ytdooaaefldjinaadoor", sum := "c886a7f270d125eecf15b4803372676a5c3e2edfe1f206e888354ee2b847495d", checked := Tryd.checked }
namespace Rows
def none {H : Type} : Left H := { results := [], args := [] }

/- WHAT THE LISTED PACKAGE-LEVEL VARIABLES READ AS WHEN THE CALL BEGINS. Each datum BY PROGRAM (the guide's laid-datum.mjs) off the statement by which the dump's own 'gosem.cut.vars' lays the variable. In a bare row this is a premise. The card (YtdooaaefldjinaaDoorCards.lean) ties it to the program's text. -/
def laid_unicode_utf8_acceptRanges {H : Type} : DataW H := .agg [.agg [.lit (.int .u8 128), .lit (.int .u8 191)], .agg [.lit (.int .u8 160), .lit (.int .u8 191)], .agg [.lit (.int .u8 128), .lit (.int .u8 159)], .agg [.lit (.int .u8 144), .lit (.int .u8 191)], .agg [.lit (.int .u8 128), .lit (.int .u8 143)], .agg [.lit (.int .u8 0), .lit (.int .u8 0)], .agg [.lit (.int .u8 0), .lit (.int .u8 0)], .agg [.lit (.int .u8 0), .lit (.int .u8 0)], .agg [.lit (.int .u8 0), .lit (.int .u8 0)], .agg [.lit (.int .u8 0), .lit (.int .u8 0)], .agg [.lit (.int .u8 0), .lit (.int .u8 0)], .agg [.lit (.int .u8 0), .lit (.int .u8 0)], .agg [.lit (.int .u8 0), .lit (.int .u8 0)], .agg [.lit (.int .u8 0), .lit (.int .u8 0)], .agg [.lit (.int .u8 0), .lit (.int .u8 0)], .agg [.lit (.int .u8 0), .lit (.int .u8 0)]]
/-- One of Go's own tables, pinned by name: the form's constant. -/
def laid_unicode_utf8_first : DataW Unit := Go.Pinned.utf8First

/-- 'rubricatorlaw12.PartsResolves': WHATEVER THE INPUT: true; the input reads as it did. -/
def partsResolvesSpec : ChangeSpec := { name := "partsResolves", fn := fun _ => fun
  | [d1, d2] => { results := [.lit (.bool true)], args := [d1, d2] }
  | _ => none }
def partsResolvesRow : OpenClaim := { program := "ytdooaaefldjinaadoor", sum := "c886a7f270d125eecf15b4803372676a5c3e2edfe1f206e888354ee2b847495d", func := "rubricator/rubricatorlaw12.PartsResolves", spec := "partsResolves", inPlace := ["internal/bytealg.CountString", "internal/bytealg.IndexByteString", "internal/bytealg.IndexString", "internal/abi.NoEscape", "internal/bytealg.MakeNoZero"], named := ["unicode/utf8.first", "unicode/utf8.acceptRanges", "internal/bytealg.MaxLen"], apart := false, laid := [("unicode/utf8.acceptRanges", laid_unicode_utf8_acceptRanges), ("unicode/utf8.first", laid_unicode_utf8_first)] }
def PartsResolvesSaid : Prop := partsResolvesRow.holds Tryd.pinned (OpenSpec.ofChange partsResolvesSpec)

/-- ITS FALSE NEIGHBOUR: 'it returns false'. Refute it at one input. -/
def partsResolvesWrong : ChangeSpec := { name := "partsResolves", fn := fun _ => fun
  | [d1, d2] => { results := [.lit (.bool false)], args := [d1, d2] }
  | _ => none }
def PartsResolvesWrongFalsely : Prop := partsResolvesRow.holds Tryd.pinned (OpenSpec.ofChange partsResolvesWrong)

/-- 'rubricatorlaw12.PartsAbsolute': WHATEVER THE INPUT: true; the input reads as it did. -/
def partsAbsoluteSpec : ChangeSpec := { name := "partsAbsolute", fn := fun _ => fun
  | [d1, d2] => { results := [.lit (.bool true)], args := [d1, d2] }
  | _ => none }
def partsAbsoluteRow : OpenClaim := { program := "ytdooaaefldjinaadoor", sum := "c886a7f270d125eecf15b4803372676a5c3e2edfe1f206e888354ee2b847495d", func := "rubricator/rubricatorlaw12.PartsAbsolute", spec := "partsAbsolute", inPlace := ["internal/bytealg.CountString", "internal/bytealg.IndexByteString", "internal/bytealg.IndexString", "internal/abi.NoEscape", "internal/bytealg.MakeNoZero"], named := ["unicode/utf8.first", "unicode/utf8.acceptRanges", "internal/bytealg.MaxLen"], apart := false, laid := [("unicode/utf8.acceptRanges", laid_unicode_utf8_acceptRanges), ("unicode/utf8.first", laid_unicode_utf8_first)] }
def PartsAbsoluteSaid : Prop := partsAbsoluteRow.holds Tryd.pinned (OpenSpec.ofChange partsAbsoluteSpec)

/-- ITS FALSE NEIGHBOUR: 'it returns false'. Refute it at one input. -/
def partsAbsoluteWrong : ChangeSpec := { name := "partsAbsolute", fn := fun _ => fun
  | [d1, d2] => { results := [.lit (.bool false)], args := [d1, d2] }
  | _ => none }
def PartsAbsoluteWrongFalsely : Prop := partsAbsoluteRow.holds Tryd.pinned (OpenSpec.ofChange partsAbsoluteWrong)

/-- 'rubricatorlaw12.PartsUp': WHATEVER THE INPUT: true; the input reads as it did. -/
def partsUpSpec : ChangeSpec := { name := "partsUp", fn := fun _ => fun
  | [d1, d2] => { results := [.lit (.bool true)], args := [d1, d2] }
  | _ => none }
def partsUpRow : OpenClaim := { program := "ytdooaaefldjinaadoor", sum := "c886a7f270d125eecf15b4803372676a5c3e2edfe1f206e888354ee2b847495d", func := "rubricator/rubricatorlaw12.PartsUp", spec := "partsUp", inPlace := ["internal/bytealg.CountString", "internal/bytealg.IndexByteString", "internal/bytealg.IndexString", "internal/abi.NoEscape", "internal/bytealg.MakeNoZero"], named := ["unicode/utf8.first", "unicode/utf8.acceptRanges", "internal/bytealg.MaxLen"], apart := false, laid := [("unicode/utf8.acceptRanges", laid_unicode_utf8_acceptRanges), ("unicode/utf8.first", laid_unicode_utf8_first)] }
def PartsUpSaid : Prop := partsUpRow.holds Tryd.pinned (OpenSpec.ofChange partsUpSpec)

/-- ITS FALSE NEIGHBOUR: 'it returns false'. Refute it at one input. -/
def partsUpWrong : ChangeSpec := { name := "partsUp", fn := fun _ => fun
  | [d1, d2] => { results := [.lit (.bool false)], args := [d1, d2] }
  | _ => none }
def PartsUpWrongFalsely : Prop := partsUpRow.holds Tryd.pinned (OpenSpec.ofChange partsUpWrong)

/-- 'rubricatorlaw12.PartsRelated': WHATEVER THE INPUT: true; the input reads as it did. -/
def partsRelatedSpec : ChangeSpec := { name := "partsRelated", fn := fun _ => fun
  | [d1, d2] => { results := [.lit (.bool true)], args := [d1, d2] }
  | _ => none }
def partsRelatedRow : OpenClaim := { program := "ytdooaaefldjinaadoor", sum := "c886a7f270d125eecf15b4803372676a5c3e2edfe1f206e888354ee2b847495d", func := "rubricator/rubricatorlaw12.PartsRelated", spec := "partsRelated", inPlace := ["internal/bytealg.CountString", "internal/bytealg.IndexByteString", "internal/bytealg.IndexString", "internal/abi.NoEscape", "internal/bytealg.MakeNoZero"], named := ["unicode/utf8.first", "unicode/utf8.acceptRanges", "internal/bytealg.MaxLen"], apart := false, laid := [("unicode/utf8.acceptRanges", laid_unicode_utf8_acceptRanges), ("unicode/utf8.first", laid_unicode_utf8_first)] }
def PartsRelatedSaid : Prop := partsRelatedRow.holds Tryd.pinned (OpenSpec.ofChange partsRelatedSpec)

/-- ITS FALSE NEIGHBOUR: 'it returns false'. Refute it at one input. -/
def partsRelatedWrong : ChangeSpec := { name := "partsRelated", fn := fun _ => fun
  | [d1, d2] => { results := [.lit (.bool false)], args := [d1, d2] }
  | _ => none }
def PartsRelatedWrongFalsely : Prop := partsRelatedRow.holds Tryd.pinned (OpenSpec.ofChange partsRelatedWrong)

/-- 'rubricatorlaw12.PartsNames': WHATEVER THE INPUT: true; the input reads as it did. -/
def partsNamesSpec : ChangeSpec := { name := "partsNames", fn := fun _ => fun
  | [d] => { results := [.lit (.bool true)], args := [d] }
  | _ => none }
def partsNamesRow : OpenClaim := { program := "ytdooaaefldjinaadoor", sum := "c886a7f270d125eecf15b4803372676a5c3e2edfe1f206e888354ee2b847495d", func := "rubricator/rubricatorlaw12.PartsNames", spec := "partsNames", inPlace := ["internal/bytealg.CountString", "internal/bytealg.IndexByteString", "internal/bytealg.IndexString", "internal/abi.NoEscape", "internal/bytealg.MakeNoZero"], named := ["unicode/utf8.first", "unicode/utf8.acceptRanges", "internal/bytealg.MaxLen"], apart := false, laid := [("unicode/utf8.acceptRanges", laid_unicode_utf8_acceptRanges), ("unicode/utf8.first", laid_unicode_utf8_first)] }
def PartsNamesSaid : Prop := partsNamesRow.holds Tryd.pinned (OpenSpec.ofChange partsNamesSpec)

/-- ITS FALSE NEIGHBOUR: 'it returns false'. Refute it at one input. -/
def partsNamesWrong : ChangeSpec := { name := "partsNames", fn := fun _ => fun
  | [d] => { results := [.lit (.bool false)], args := [d] }
  | _ => none }
def PartsNamesWrongFalsely : Prop := partsNamesRow.holds Tryd.pinned (OpenSpec.ofChange partsNamesWrong)

/- THE SECOND FORM. 'bulk': how many values and letters a reading holds, each counted each time it is reached (what is shared counts as often as it is met; a slice's spare places count too). A statement '..UptoSaid' is the law's where the arguments, and the package variables that the reading takes, are together of bulk at most 1048576: NARROWER than '..Said'. Prove '..Said' where nothing that the law and all that it calls make is longer than what came in: it says more and counts as full. Else prove '..UptoSaid'. A law counts once. -/
mutual
def uptoBulk {H : Type} : DataW H → Nat
  | .lit (.string bytes) => bytes.length + 1
  | .lit _ => 1
  | .nil => 1
  | .ptr d => uptoBulk d + 1
  | .slice elems spare => uptoBulkAll elems + uptoBulkAll spare + 1
  | .agg parts => uptoBulkAll parts + 1
  | .iface _ d => uptoBulk d + 1
  | .map entries => uptoBulkEntries entries + 1
  | .held _ => 1
def uptoBulkAll {H : Type} : List (DataW H) → Nat
  | [] => 0
  | d :: r => uptoBulk d + uptoBulkAll r
def uptoBulkEntries {H : Type} : List (Lit × DataW H) → Nat
  | [] => 0
  | x :: r => uptoBulkEntry x + uptoBulkEntries r
def uptoBulkEntry {H : Type} : Lit × DataW H → Nat
  | (.string bytes, d) => bytes.length + uptoBulk d + 1
  | (_, d) => uptoBulk d + 1
 end
def uptoSmall : (H : Type) → List (DataW H) → Bool := fun _ ds => decide (uptoBulkAll ds ≤ 1048576)
def OpenSpec.upto (s : _root_.Go.ChangeSpec) : _root_.Go.OpenSpec := { _root_.Go.OpenSpec.ofChange s with cond := some uptoSmall }

/-- 'rubricatorlaw12.PartsResolves', WHERE WHAT IT READS IS OF BULK AT MOST 1048576: true; the input reads as it did. -/
def partsResolvesUptoRow : OpenClaim := { program := "ytdooaaefldjinaadoor", sum := "c886a7f270d125eecf15b4803372676a5c3e2edfe1f206e888354ee2b847495d", func := "rubricator/rubricatorlaw12.PartsResolves", spec := "partsResolves", inPlace := ["internal/bytealg.CountString", "internal/bytealg.IndexByteString", "internal/bytealg.IndexString", "internal/abi.NoEscape", "internal/bytealg.MakeNoZero"], named := ["unicode/utf8.first", "unicode/utf8.acceptRanges", "internal/bytealg.MaxLen"], apart := false, laid := [("unicode/utf8.acceptRanges", laid_unicode_utf8_acceptRanges), ("unicode/utf8.first", laid_unicode_utf8_first)], narrowed := true }
def PartsResolvesUptoSaid : Prop := partsResolvesUptoRow.holds Tryd.pinned (OpenSpec.upto partsResolvesSpec)

/-- 'rubricatorlaw12.PartsAbsolute', WHERE WHAT IT READS IS OF BULK AT MOST 1048576: true; the input reads as it did. -/
def partsAbsoluteUptoRow : OpenClaim := { program := "ytdooaaefldjinaadoor", sum := "c886a7f270d125eecf15b4803372676a5c3e2edfe1f206e888354ee2b847495d", func := "rubricator/rubricatorlaw12.PartsAbsolute", spec := "partsAbsolute", inPlace := ["internal/bytealg.CountString", "internal/bytealg.IndexByteString", "internal/bytealg.IndexString", "internal/abi.NoEscape", "internal/bytealg.MakeNoZero"], named := ["unicode/utf8.first", "unicode/utf8.acceptRanges", "internal/bytealg.MaxLen"], apart := false, laid := [("unicode/utf8.acceptRanges", laid_unicode_utf8_acceptRanges), ("unicode/utf8.first", laid_unicode_utf8_first)], narrowed := true }
def PartsAbsoluteUptoSaid : Prop := partsAbsoluteUptoRow.holds Tryd.pinned (OpenSpec.upto partsAbsoluteSpec)

/-- 'rubricatorlaw12.PartsUp', WHERE WHAT IT READS IS OF BULK AT MOST 1048576: true; the input reads as it did. -/
def partsUpUptoRow : OpenClaim := { program := "ytdooaaefldjinaadoor", sum := "c886a7f270d125eecf15b4803372676a5c3e2edfe1f206e888354ee2b847495d", func := "rubricator/rubricatorlaw12.PartsUp", spec := "partsUp", inPlace := ["internal/bytealg.CountString", "internal/bytealg.IndexByteString", "internal/bytealg.IndexString", "internal/abi.NoEscape", "internal/bytealg.MakeNoZero"], named := ["unicode/utf8.first", "unicode/utf8.acceptRanges", "internal/bytealg.MaxLen"], apart := false, laid := [("unicode/utf8.acceptRanges", laid_unicode_utf8_acceptRanges), ("unicode/utf8.first", laid_unicode_utf8_first)], narrowed := true }
def PartsUpUptoSaid : Prop := partsUpUptoRow.holds Tryd.pinned (OpenSpec.upto partsUpSpec)

/-- 'rubricatorlaw12.PartsRelated', WHERE WHAT IT READS IS OF BULK AT MOST 1048576: true; the input reads as it did. -/
def partsRelatedUptoRow : OpenClaim := { program := "ytdooaaefldjinaadoor", sum := "c886a7f270d125eecf15b4803372676a5c3e2edfe1f206e888354ee2b847495d", func := "rubricator/rubricatorlaw12.PartsRelated", spec := "partsRelated", inPlace := ["internal/bytealg.CountString", "internal/bytealg.IndexByteString", "internal/bytealg.IndexString", "internal/abi.NoEscape", "internal/bytealg.MakeNoZero"], named := ["unicode/utf8.first", "unicode/utf8.acceptRanges", "internal/bytealg.MaxLen"], apart := false, laid := [("unicode/utf8.acceptRanges", laid_unicode_utf8_acceptRanges), ("unicode/utf8.first", laid_unicode_utf8_first)], narrowed := true }
def PartsRelatedUptoSaid : Prop := partsRelatedUptoRow.holds Tryd.pinned (OpenSpec.upto partsRelatedSpec)

/-- 'rubricatorlaw12.PartsNames', WHERE WHAT IT READS IS OF BULK AT MOST 1048576: true; the input reads as it did. -/
def partsNamesUptoRow : OpenClaim := { program := "ytdooaaefldjinaadoor", sum := "c886a7f270d125eecf15b4803372676a5c3e2edfe1f206e888354ee2b847495d", func := "rubricator/rubricatorlaw12.PartsNames", spec := "partsNames", inPlace := ["internal/bytealg.CountString", "internal/bytealg.IndexByteString", "internal/bytealg.IndexString", "internal/abi.NoEscape", "internal/bytealg.MakeNoZero"], named := ["unicode/utf8.first", "unicode/utf8.acceptRanges", "internal/bytealg.MaxLen"], apart := false, laid := [("unicode/utf8.acceptRanges", laid_unicode_utf8_acceptRanges), ("unicode/utf8.first", laid_unicode_utf8_first)], narrowed := true }
def PartsNamesUptoSaid : Prop := partsNamesUptoRow.holds Tryd.pinned (OpenSpec.upto partsNamesSpec)

end Rows
end Go.Proofs.YtdooaaefldjinaaDoor
