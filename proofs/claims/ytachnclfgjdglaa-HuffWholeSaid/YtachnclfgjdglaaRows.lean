/-
  No cell of these rows narrows 'for every input' (looked for: loops, veiled, ifaces, maps, wideKeys, modest, calm, conditions, laid).
  DERIVED. THE GIVEN ROWS OF THIS SEAT. 9 by the template 'for every input the law returns true; each argument reads behind the call as it read before'; 0 by the template 'total and deterministic' (their statements: YtachnclfgjdglaaTotals.lean).
  GIVEN WITH THE SEED: the statements are not yours to turn. If you find one false, say at which input.
  Laid BY PROGRAM, IN A SANDBOX (cutbox-rows.mjs): the forced cells as the released guide's own fill.sh prints them over the translation 34478a9ff9834b4f… (all of the seat's roots in one cut). By AI agents, Wed Nov 11 2026. No macro, syntax, notation, axiom, sorry.
-/
import Derived.Test.YtachnclfgjdglaaChecked
import GoSem.Claim
import GoSem.ClaimJoined
import GoSem.ClaimMapViews
import Derived.JoinedTies
import Derived.KernelRfl
namespace Go.Proofs.Ytachnclfgjdglaa
/- THE CELL 'sum', in the pinned program and in every row, IS THE sha256 OF THE DUMP (.gsa) THAT YtachnclfgjdglaaProg.lean LOADS. Nothing in Lean hashes anything: it is a label: what it is worth is what the hold of that sum in a sandbox is worth. -/
noncomputable def Try.pinned : Pinned := { name := "ytachnclfgjdglaa", sum := "34478a9ff9834b4f4fca3af56cb543ca456d943abcc46a8b79e5a95212b27554", checked := Try.checked }
namespace Rows
def none {H : Type} : Left H := { results := [], args := [] }

/-- 'rubricatorlaw3.HuffCodes': WHATEVER THE INPUT: true; the input reads as it did. -/
def huffCodesSpec : ChangeSpec := { name := "huffCodes", fn := fun _ => fun
  | [d] => { results := [.lit (.bool true)], args := [d] }
  | _ => none }
def huffCodesRow : OpenClaim := { program := "ytachnclfgjdglaa", sum := "34478a9ff9834b4f4fca3af56cb543ca456d943abcc46a8b79e5a95212b27554", func := "rubricator/rubricatorlaw3.HuffCodes", spec := "huffCodes", unfollowed := true, recurses := true, apart := false }
def HuffCodesSaid : Prop := huffCodesRow.holds Try.pinned (OpenSpec.ofChange huffCodesSpec)

/-- ITS FALSE NEIGHBOUR: 'it returns false'. Refute it at one input. -/
def huffCodesWrong : ChangeSpec := { name := "huffCodes", fn := fun _ => fun
  | [d] => { results := [.lit (.bool false)], args := [d] }
  | _ => none }
def HuffCodesWrongFalsely : Prop := huffCodesRow.holds Try.pinned (OpenSpec.ofChange huffCodesWrong)

/-- 'rubricatorlaw3.HuffOrder': WHATEVER THE INPUT: true; the input reads as it did. -/
def huffOrderSpec : ChangeSpec := { name := "huffOrder", fn := fun _ => fun
  | [d] => { results := [.lit (.bool true)], args := [d] }
  | _ => none }
def huffOrderRow : OpenClaim := { program := "ytachnclfgjdglaa", sum := "34478a9ff9834b4f4fca3af56cb543ca456d943abcc46a8b79e5a95212b27554", func := "rubricator/rubricatorlaw3.HuffOrder", spec := "huffOrder", unfollowed := true, recurses := true, apart := false }
def HuffOrderSaid : Prop := huffOrderRow.holds Try.pinned (OpenSpec.ofChange huffOrderSpec)

/-- ITS FALSE NEIGHBOUR: 'it returns false'. Refute it at one input. -/
def huffOrderWrong : ChangeSpec := { name := "huffOrder", fn := fun _ => fun
  | [d] => { results := [.lit (.bool false)], args := [d] }
  | _ => none }
def HuffOrderWrongFalsely : Prop := huffOrderRow.holds Try.pinned (OpenSpec.ofChange huffOrderWrong)

/-- 'rubricatorlaw3.HuffRare': WHATEVER THE INPUT: true; the input reads as it did. -/
def huffRareSpec : ChangeSpec := { name := "huffRare", fn := fun _ => fun
  | [d1, d2] => { results := [.lit (.bool true)], args := [d1, d2] }
  | _ => none }
def huffRareRow : OpenClaim := { program := "ytachnclfgjdglaa", sum := "34478a9ff9834b4f4fca3af56cb543ca456d943abcc46a8b79e5a95212b27554", func := "rubricator/rubricatorlaw3.HuffRare", spec := "huffRare", unfollowed := true, recurses := true, apart := false }
def HuffRareSaid : Prop := huffRareRow.holds Try.pinned (OpenSpec.ofChange huffRareSpec)

/-- ITS FALSE NEIGHBOUR: 'it returns false'. Refute it at one input. -/
def huffRareWrong : ChangeSpec := { name := "huffRare", fn := fun _ => fun
  | [d1, d2] => { results := [.lit (.bool false)], args := [d1, d2] }
  | _ => none }
def HuffRareWrongFalsely : Prop := huffRareRow.holds Try.pinned (OpenSpec.ofChange huffRareWrong)

/-- 'rubricatorlaw3.HuffLeast': WHATEVER THE INPUT: true; the input reads as it did. -/
def huffLeastSpec : ChangeSpec := { name := "huffLeast", fn := fun _ => fun
  | [d1, d2] => { results := [.lit (.bool true)], args := [d1, d2] }
  | _ => none }
def huffLeastRow : OpenClaim := { program := "ytachnclfgjdglaa", sum := "34478a9ff9834b4f4fca3af56cb543ca456d943abcc46a8b79e5a95212b27554", func := "rubricator/rubricatorlaw3.HuffLeast", spec := "huffLeast", unfollowed := true, recurses := true, apart := false }
def HuffLeastSaid : Prop := huffLeastRow.holds Try.pinned (OpenSpec.ofChange huffLeastSpec)

/-- ITS FALSE NEIGHBOUR: 'it returns false'. Refute it at one input. -/
def huffLeastWrong : ChangeSpec := { name := "huffLeast", fn := fun _ => fun
  | [d1, d2] => { results := [.lit (.bool false)], args := [d1, d2] }
  | _ => none }
def HuffLeastWrongFalsely : Prop := huffLeastRow.holds Try.pinned (OpenSpec.ofChange huffLeastWrong)

/-- 'rubricatorlaw3.HuffCosts': WHATEVER THE INPUT: true; the input reads as it did. -/
def huffCostsSpec : ChangeSpec := { name := "huffCosts", fn := fun _ => fun
  | [d1, d2] => { results := [.lit (.bool true)], args := [d1, d2] }
  | _ => none }
def huffCostsRow : OpenClaim := { program := "ytachnclfgjdglaa", sum := "34478a9ff9834b4f4fca3af56cb543ca456d943abcc46a8b79e5a95212b27554", func := "rubricator/rubricatorlaw3.HuffCosts", spec := "huffCosts", unfollowed := true, recurses := true, apart := false }
def HuffCostsSaid : Prop := huffCostsRow.holds Try.pinned (OpenSpec.ofChange huffCostsSpec)

/-- ITS FALSE NEIGHBOUR: 'it returns false'. Refute it at one input. -/
def huffCostsWrong : ChangeSpec := { name := "huffCosts", fn := fun _ => fun
  | [d1, d2] => { results := [.lit (.bool false)], args := [d1, d2] }
  | _ => none }
def HuffCostsWrongFalsely : Prop := huffCostsRow.holds Try.pinned (OpenSpec.ofChange huffCostsWrong)

/-- 'rubricatorlaw3.HuffReads': WHATEVER THE INPUT: true; the input reads as it did. -/
def huffReadsSpec : ChangeSpec := { name := "huffReads", fn := fun _ => fun
  | [d1, d2] => { results := [.lit (.bool true)], args := [d1, d2] }
  | _ => none }
def huffReadsRow : OpenClaim := { program := "ytachnclfgjdglaa", sum := "34478a9ff9834b4f4fca3af56cb543ca456d943abcc46a8b79e5a95212b27554", func := "rubricator/rubricatorlaw3.HuffReads", spec := "huffReads", unfollowed := true, recurses := true, apart := false }
def HuffReadsSaid : Prop := huffReadsRow.holds Try.pinned (OpenSpec.ofChange huffReadsSpec)

/-- ITS FALSE NEIGHBOUR: 'it returns false'. Refute it at one input. -/
def huffReadsWrong : ChangeSpec := { name := "huffReads", fn := fun _ => fun
  | [d1, d2] => { results := [.lit (.bool false)], args := [d1, d2] }
  | _ => none }
def HuffReadsWrongFalsely : Prop := huffReadsRow.holds Try.pinned (OpenSpec.ofChange huffReadsWrong)

/-- 'rubricatorlaw3.HuffBack': WHATEVER THE INPUT: true; the input reads as it did. -/
def huffBackSpec : ChangeSpec := { name := "huffBack", fn := fun _ => fun
  | [d1, d2] => { results := [.lit (.bool true)], args := [d1, d2] }
  | _ => none }
def huffBackRow : OpenClaim := { program := "ytachnclfgjdglaa", sum := "34478a9ff9834b4f4fca3af56cb543ca456d943abcc46a8b79e5a95212b27554", func := "rubricator/rubricatorlaw3.HuffBack", spec := "huffBack", unfollowed := true, recurses := true, apart := false }
def HuffBackSaid : Prop := huffBackRow.holds Try.pinned (OpenSpec.ofChange huffBackSpec)

/-- ITS FALSE NEIGHBOUR: 'it returns false'. Refute it at one input. -/
def huffBackWrong : ChangeSpec := { name := "huffBack", fn := fun _ => fun
  | [d1, d2] => { results := [.lit (.bool false)], args := [d1, d2] }
  | _ => none }
def HuffBackWrongFalsely : Prop := huffBackRow.holds Try.pinned (OpenSpec.ofChange huffBackWrong)

/-- 'rubricatorlaw3.HuffOfNothing': WHATEVER THE INPUT: true; the input reads as it did. -/
def huffOfNothingSpec : ChangeSpec := { name := "huffOfNothing", fn := fun _ => fun
  | [d] => { results := [.lit (.bool true)], args := [d] }
  | _ => none }
def huffOfNothingRow : OpenClaim := { program := "ytachnclfgjdglaa", sum := "34478a9ff9834b4f4fca3af56cb543ca456d943abcc46a8b79e5a95212b27554", func := "rubricator/rubricatorlaw3.HuffOfNothing", spec := "huffOfNothing", unfollowed := true, recurses := true, apart := false }
def HuffOfNothingSaid : Prop := huffOfNothingRow.holds Try.pinned (OpenSpec.ofChange huffOfNothingSpec)

/-- ITS FALSE NEIGHBOUR: 'it returns false'. Refute it at one input. -/
def huffOfNothingWrong : ChangeSpec := { name := "huffOfNothing", fn := fun _ => fun
  | [d] => { results := [.lit (.bool false)], args := [d] }
  | _ => none }
def HuffOfNothingWrongFalsely : Prop := huffOfNothingRow.holds Try.pinned (OpenSpec.ofChange huffOfNothingWrong)

/-- 'rubricatorlaw3.HuffWhole': WHATEVER THE INPUT: true; the input reads as it did. -/
def huffWholeSpec : ChangeSpec := { name := "huffWhole", fn := fun _ => fun
  | [d] => { results := [.lit (.bool true)], args := [d] }
  | _ => none }
def huffWholeRow : OpenClaim := { program := "ytachnclfgjdglaa", sum := "34478a9ff9834b4f4fca3af56cb543ca456d943abcc46a8b79e5a95212b27554", func := "rubricator/rubricatorlaw3.HuffWhole", spec := "huffWhole", unfollowed := true, recurses := true, apart := false }
def HuffWholeSaid : Prop := huffWholeRow.holds Try.pinned (OpenSpec.ofChange huffWholeSpec)

/-- ITS FALSE NEIGHBOUR: 'it returns false'. Refute it at one input. -/
def huffWholeWrong : ChangeSpec := { name := "huffWhole", fn := fun _ => fun
  | [d] => { results := [.lit (.bool false)], args := [d] }
  | _ => none }
def HuffWholeWrongFalsely : Prop := huffWholeRow.holds Try.pinned (OpenSpec.ofChange huffWholeWrong)

/- THE SECOND FORM. 'bulk': how many values and letters a reading holds, each counted each time it is reached (what is shared counts as often as it is met; a slice's spare places count too). A statement '..UptoSaid' is the law's where the arguments, and the package variables that the reading takes, are together of bulk at most 1048576: NARROWER than '..Said'. Prove '..Said' where nothing that the law and all that it calls make is longer than what came in: it says more and counts as full. Else prove '..UptoSaid'. A law counts once. -/
mutual
def uptoBulk {H : Type} : DataW H → Nat
  | .lit (.string bytes) => bytes.length + 1
  | .lit _ => 1
  | .nil => 1
  | .ptr d => uptoBulk d + 1
  | .slice elems spare => uptoBulkAll elems + uptoBulkAll spare + 1
  | .agg parts => uptoBulkAll parts + 1
  | .iface _ d => uptoBulk d + 1
  | .map entries => uptoBulkEntries entries + 1
  | .held _ => 1
def uptoBulkAll {H : Type} : List (DataW H) → Nat
  | [] => 0
  | d :: r => uptoBulk d + uptoBulkAll r
def uptoBulkEntries {H : Type} : List (Lit × DataW H) → Nat
  | [] => 0
  | x :: r => uptoBulkEntry x + uptoBulkEntries r
def uptoBulkEntry {H : Type} : Lit × DataW H → Nat
  | (.string bytes, d) => bytes.length + uptoBulk d + 1
  | (_, d) => uptoBulk d + 1
 end
def uptoSmall : (H : Type) → List (DataW H) → Bool := fun _ ds => decide (uptoBulkAll ds ≤ 1048576)
def OpenSpec.upto (s : _root_.Go.ChangeSpec) : _root_.Go.OpenSpec := { _root_.Go.OpenSpec.ofChange s with cond := some uptoSmall }

/-- 'rubricatorlaw3.HuffCodes', WHERE WHAT IT READS IS OF BULK AT MOST 1048576: true; the input reads as it did. -/
def huffCodesUptoRow : OpenClaim := { program := "ytachnclfgjdglaa", sum := "34478a9ff9834b4f4fca3af56cb543ca456d943abcc46a8b79e5a95212b27554", func := "rubricator/rubricatorlaw3.HuffCodes", spec := "huffCodes", unfollowed := true, recurses := true, apart := false, narrowed := true }
def HuffCodesUptoSaid : Prop := huffCodesUptoRow.holds Try.pinned (OpenSpec.upto huffCodesSpec)

/-- 'rubricatorlaw3.HuffOrder', WHERE WHAT IT READS IS OF BULK AT MOST 1048576: true; the input reads as it did. -/
def huffOrderUptoRow : OpenClaim := { program := "ytachnclfgjdglaa", sum := "34478a9ff9834b4f4fca3af56cb543ca456d943abcc46a8b79e5a95212b27554", func := "rubricator/rubricatorlaw3.HuffOrder", spec := "huffOrder", unfollowed := true, recurses := true, apart := false, narrowed := true }
def HuffOrderUptoSaid : Prop := huffOrderUptoRow.holds Try.pinned (OpenSpec.upto huffOrderSpec)

/-- 'rubricatorlaw3.HuffRare', WHERE WHAT IT READS IS OF BULK AT MOST 1048576: true; the input reads as it did. -/
def huffRareUptoRow : OpenClaim := { program := "ytachnclfgjdglaa", sum := "34478a9ff9834b4f4fca3af56cb543ca456d943abcc46a8b79e5a95212b27554", func := "rubricator/rubricatorlaw3.HuffRare", spec := "huffRare", unfollowed := true, recurses := true, apart := false, narrowed := true }
def HuffRareUptoSaid : Prop := huffRareUptoRow.holds Try.pinned (OpenSpec.upto huffRareSpec)

/-- 'rubricatorlaw3.HuffLeast', WHERE WHAT IT READS IS OF BULK AT MOST 1048576: true; the input reads as it did. -/
def huffLeastUptoRow : OpenClaim := { program := "ytachnclfgjdglaa", sum := "34478a9ff9834b4f4fca3af56cb543ca456d943abcc46a8b79e5a95212b27554", func := "rubricator/rubricatorlaw3.HuffLeast", spec := "huffLeast", unfollowed := true, recurses := true, apart := false, narrowed := true }
def HuffLeastUptoSaid : Prop := huffLeastUptoRow.holds Try.pinned (OpenSpec.upto huffLeastSpec)

/-- 'rubricatorlaw3.HuffCosts', WHERE WHAT IT READS IS OF BULK AT MOST 1048576: true; the input reads as it did. -/
def huffCostsUptoRow : OpenClaim := { program := "ytachnclfgjdglaa", sum := "34478a9ff9834b4f4fca3af56cb543ca456d943abcc46a8b79e5a95212b27554", func := "rubricator/rubricatorlaw3.HuffCosts", spec := "huffCosts", unfollowed := true, recurses := true, apart := false, narrowed := true }
def HuffCostsUptoSaid : Prop := huffCostsUptoRow.holds Try.pinned (OpenSpec.upto huffCostsSpec)

/-- 'rubricatorlaw3.HuffReads', WHERE WHAT IT READS IS OF BULK AT MOST 1048576: true; the input reads as it did. -/
def huffReadsUptoRow : OpenClaim := { program := "ytachnclfgjdglaa", sum := "34478a9ff9834b4f4fca3af56cb543ca456d943abcc46a8b79e5a95212b27554", func := "rubricator/rubricatorlaw3.HuffReads", spec := "huffReads", unfollowed := true, recurses := true, apart := false, narrowed := true }
def HuffReadsUptoSaid : Prop := huffReadsUptoRow.holds Try.pinned (OpenSpec.upto huffReadsSpec)

/-- 'rubricatorlaw3.HuffBack', WHERE WHAT IT READS IS OF BULK AT MOST 1048576: true; the input reads as it did. -/
def huffBackUptoRow : OpenClaim := { program := "ytachnclfgjdglaa", sum := "34478a9ff9834b4f4fca3af56cb543ca456d943abcc46a8b79e5a95212b27554", func := "rubricator/rubricatorlaw3.HuffBack", spec := "huffBack", unfollowed := true, recurses := true, apart := false, narrowed := true }
def HuffBackUptoSaid : Prop := huffBackUptoRow.holds Try.pinned (OpenSpec.upto huffBackSpec)

/-- 'rubricatorlaw3.HuffOfNothing', WHERE WHAT IT READS IS OF BULK AT MOST 1048576: true; the input reads as it did. -/
def huffOfNothingUptoRow : OpenClaim := { program := "ytachnclfgjdglaa", sum := "34478a9ff9834b4f4fca3af56cb543ca456d943abcc46a8b79e5a95212b27554", func := "rubricator/rubricatorlaw3.HuffOfNothing", spec := "huffOfNothing", unfollowed := true, recurses := true, apart := false, narrowed := true }
def HuffOfNothingUptoSaid : Prop := huffOfNothingUptoRow.holds Try.pinned (OpenSpec.upto huffOfNothingSpec)

/-- 'rubricatorlaw3.HuffWhole', WHERE WHAT IT READS IS OF BULK AT MOST 1048576: true; the input reads as it did. -/
def huffWholeUptoRow : OpenClaim := { program := "ytachnclfgjdglaa", sum := "34478a9ff9834b4f4fca3af56cb543ca456d943abcc46a8b79e5a95212b27554", func := "rubricator/rubricatorlaw3.HuffWhole", spec := "huffWhole", unfollowed := true, recurses := true, apart := false, narrowed := true }
def HuffWholeUptoSaid : Prop := huffWholeUptoRow.holds Try.pinned (OpenSpec.upto huffWholeSpec)

end Rows
end Go.Proofs.Ytachnclfgjdglaa
