/-
  No cell of these rows narrows 'for every input' (looked for: loops, veiled, ifaces, maps, wideKeys, modest, calm, conditions, laid).
  DERIVED. THE GIVEN ROWS OF THIS SEAT. 3 by the template 'for every input the law returns true; each argument reads behind the call as it read before'; 0 by the template 'total and deterministic' (their statements: YtpelpbhllojaiaaTotals.lean).
  GIVEN WITH THE SEED: the statements are not yours to turn. If you find one false, say at which input.
  Laid BY PROGRAM, IN A SANDBOX (cutbox-rows.mjs): the forced cells as the released guide's own fill.sh prints them over the translation 8f6ba90fc7bbf81a… (all of the seat's roots in one cut). By AI agents, Wed Nov 11 2026. No macro, syntax, notation, axiom, sorry.
-/
import Derived.Test.YtpelpbhllojaiaaChecked
import GoSem.Claim
import GoSem.ClaimJoined
import GoSem.ClaimMapViews
import Derived.JoinedTies
import Derived.KernelRfl
namespace Go.Proofs.Ytpelpbhllojaiaa
/- THE CELL 'sum', in the pinned program and in every row, IS THE sha256 OF THE DUMP (.gsa) THAT YtpelpbhllojaiaaProg.lean LOADS. Nothing in Lean hashes anything: it is a label: what it is worth is what the hold of that sum in a sandbox is worth. -/
noncomputable def Try.pinned : Pinned := { name := "ytpelpbhllojaiaa", sum := "8f6ba90fc7bbf81af67847b348cccde0e4b62d8ae1868a1b3a8969454a82edc2", checked := Try.checked }
namespace Rows
def none {H : Type} : Left H := { results := [], args := [] }

/-- 'rubricatorlaw8.ClassOf': WHATEVER THE INPUT: true; the input reads as it did. -/
def classOfSpec : ChangeSpec := { name := "classOf", fn := fun _ => fun
  | [d1, d2] => { results := [.lit (.bool true)], args := [d1, d2] }
  | _ => none }
def classOfRow : OpenClaim := { program := "ytpelpbhllojaiaa", sum := "8f6ba90fc7bbf81af67847b348cccde0e4b62d8ae1868a1b3a8969454a82edc2", func := "rubricator/rubricatorlaw8.ClassOf", spec := "classOf", apart := false }
def ClassOfSaid : Prop := classOfRow.holds Try.pinned (OpenSpec.ofChange classOfSpec)

/-- ITS FALSE NEIGHBOUR: 'it returns false'. Refute it at one input. -/
def classOfWrong : ChangeSpec := { name := "classOf", fn := fun _ => fun
  | [d1, d2] => { results := [.lit (.bool false)], args := [d1, d2] }
  | _ => none }
def ClassOfWrongFalsely : Prop := classOfRow.holds Try.pinned (OpenSpec.ofChange classOfWrong)

/-- 'rubricatorlaw8.ClassSigns': WHATEVER THE INPUT: true; the input reads as it did. -/
def classSignsSpec : ChangeSpec := { name := "classSigns", fn := fun _ => fun
  | [d] => { results := [.lit (.bool true)], args := [d] }
  | _ => none }
def classSignsRow : OpenClaim := { program := "ytpelpbhllojaiaa", sum := "8f6ba90fc7bbf81af67847b348cccde0e4b62d8ae1868a1b3a8969454a82edc2", func := "rubricator/rubricatorlaw8.ClassSigns", spec := "classSigns", apart := false }
def ClassSignsSaid : Prop := classSignsRow.holds Try.pinned (OpenSpec.ofChange classSignsSpec)

/-- ITS FALSE NEIGHBOUR: 'it returns false'. Refute it at one input. -/
def classSignsWrong : ChangeSpec := { name := "classSigns", fn := fun _ => fun
  | [d] => { results := [.lit (.bool false)], args := [d] }
  | _ => none }
def ClassSignsWrongFalsely : Prop := classSignsRow.holds Try.pinned (OpenSpec.ofChange classSignsWrong)

/-- 'rubricatorlaw8.ClassEnds': WHATEVER THE INPUT: true; the input reads as it did. -/
def classEndsSpec : ChangeSpec := { name := "classEnds", fn := fun _ => fun
  | [d] => { results := [.lit (.bool true)], args := [d] }
  | _ => none }
def classEndsRow : OpenClaim := { program := "ytpelpbhllojaiaa", sum := "8f6ba90fc7bbf81af67847b348cccde0e4b62d8ae1868a1b3a8969454a82edc2", func := "rubricator/rubricatorlaw8.ClassEnds", spec := "classEnds", apart := false }
def ClassEndsSaid : Prop := classEndsRow.holds Try.pinned (OpenSpec.ofChange classEndsSpec)

/-- ITS FALSE NEIGHBOUR: 'it returns false'. Refute it at one input. -/
def classEndsWrong : ChangeSpec := { name := "classEnds", fn := fun _ => fun
  | [d] => { results := [.lit (.bool false)], args := [d] }
  | _ => none }
def ClassEndsWrongFalsely : Prop := classEndsRow.holds Try.pinned (OpenSpec.ofChange classEndsWrong)

/- THE SECOND FORM. 'bulk': how many values and letters a reading holds, each counted each time it is reached (what is shared counts as often as it is met; a slice's spare places count too). A statement '..UptoSaid' is the law's where the arguments, and the package variables that the reading takes, are together of bulk at most 1048576: NARROWER than '..Said'. Prove '..Said' where nothing that the law and all that it calls make is longer than what came in: it says more and counts as full. Else prove '..UptoSaid'. A law counts once. -/
mutual
def uptoBulk {H : Type} : DataW H → Nat
  | .lit (.string bytes) => bytes.length + 1
  | .lit _ => 1
  | .nil => 1
  | .ptr d => uptoBulk d + 1
  | .slice elems spare => uptoBulkAll elems + uptoBulkAll spare + 1
  | .agg parts => uptoBulkAll parts + 1
  | .iface _ d => uptoBulk d + 1
  | .map entries => uptoBulkEntries entries + 1
  | .held _ => 1
def uptoBulkAll {H : Type} : List (DataW H) → Nat
  | [] => 0
  | d :: r => uptoBulk d + uptoBulkAll r
def uptoBulkEntries {H : Type} : List (Lit × DataW H) → Nat
  | [] => 0
  | x :: r => uptoBulkEntry x + uptoBulkEntries r
def uptoBulkEntry {H : Type} : Lit × DataW H → Nat
  | (.string bytes, d) => bytes.length + uptoBulk d + 1
  | (_, d) => uptoBulk d + 1
 end
def uptoSmall : (H : Type) → List (DataW H) → Bool := fun _ ds => decide (uptoBulkAll ds ≤ 1048576)
def OpenSpec.upto (s : _root_.Go.ChangeSpec) : _root_.Go.OpenSpec := { _root_.Go.OpenSpec.ofChange s with cond := some uptoSmall }

/-- 'rubricatorlaw8.ClassOf', WHERE WHAT IT READS IS OF BULK AT MOST 1048576: true; the input reads as it did. -/
def classOfUptoRow : OpenClaim := { program := "ytpelpbhllojaiaa", sum := "8f6ba90fc7bbf81af67847b348cccde0e4b62d8ae1868a1b3a8969454a82edc2", func := "rubricator/rubricatorlaw8.ClassOf", spec := "classOf", apart := false, narrowed := true }
def ClassOfUptoSaid : Prop := classOfUptoRow.holds Try.pinned (OpenSpec.upto classOfSpec)

/-- 'rubricatorlaw8.ClassSigns', WHERE WHAT IT READS IS OF BULK AT MOST 1048576: true; the input reads as it did. -/
def classSignsUptoRow : OpenClaim := { program := "ytpelpbhllojaiaa", sum := "8f6ba90fc7bbf81af67847b348cccde0e4b62d8ae1868a1b3a8969454a82edc2", func := "rubricator/rubricatorlaw8.ClassSigns", spec := "classSigns", apart := false, narrowed := true }
def ClassSignsUptoSaid : Prop := classSignsUptoRow.holds Try.pinned (OpenSpec.upto classSignsSpec)

/-- 'rubricatorlaw8.ClassEnds', WHERE WHAT IT READS IS OF BULK AT MOST 1048576: true; the input reads as it did. -/
def classEndsUptoRow : OpenClaim := { program := "ytpelpbhllojaiaa", sum := "8f6ba90fc7bbf81af67847b348cccde0e4b62d8ae1868a1b3a8969454a82edc2", func := "rubricator/rubricatorlaw8.ClassEnds", spec := "classEnds", apart := false, narrowed := true }
def ClassEndsUptoSaid : Prop := classEndsUptoRow.holds Try.pinned (OpenSpec.upto classEndsSpec)

end Rows
end Go.Proofs.Ytpelpbhllojaiaa
