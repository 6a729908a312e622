/-
  No cell of these rows narrows 'for every input' (looked for: loops, veiled, ifaces, maps, wideKeys, modest, calm, conditions, laid).
  DERIVED. THE GIVEN ROWS OF THIS SEAT. 6 by the template 'for every input the law returns true; each argument reads behind the call as it read before'; 0 by the template 'total and deterministic' (their statements: YtojmhdooglihaaaTotals.lean).
  GIVEN WITH THE SEED: the statements are not yours to turn. If you find one false, say at which input.
  Laid BY PROGRAM, IN A SANDBOX (cutbox-rows.mjs): the forced cells as the released guide's own fill.sh prints them over the translation 460d8a820462d8f0… (all of the seat's roots in one cut). By AI agents, Wed Nov 11 2026. No macro, syntax, notation, axiom, sorry.
-/
import Derived.Test.YtojmhdooglihaaaChecked
import GoSem.Claim
import GoSem.ClaimJoined
import GoSem.ClaimMapViews
import Derived.JoinedTies
import Derived.KernelRfl
namespace Go.Proofs.Ytojmhdooglihaaa
/- THE CELL 'sum', in the pinned program and in every row, IS THE sha256 OF THE DUMP (.gsa) THAT YtojmhdooglihaaaProg.lean LOADS. Nothing in Lean hashes anything: it is a label: what it is worth is what the hold of that sum in a sandbox is worth. -/
noncomputable def Try.pinned : Pinned := { name := "ytojmhdooglihaaa", sum := "460d8a820462d8f0067b2f0912268440373bd690bbaa23204c0d9d32a827d79e", checked := Try.checked }
namespace Rows
def none {H : Type} : Left H := { results := [], args := [] }

/-- 'rubricatorlaw20.DelimMatches': WHATEVER THE INPUT: true; the input reads as it did. -/
def delimMatchesSpec : ChangeSpec := { name := "delimMatches", fn := fun _ => fun
  | [d] => { results := [.lit (.bool true)], args := [d] }
  | _ => none }
def delimMatchesRow : OpenClaim := { program := "ytojmhdooglihaaa", sum := "460d8a820462d8f0067b2f0912268440373bd690bbaa23204c0d9d32a827d79e", func := "rubricator/rubricatorlaw20.DelimMatches", spec := "delimMatches", apart := false }
def DelimMatchesSaid : Prop := delimMatchesRow.holds Try.pinned (OpenSpec.ofChange delimMatchesSpec)

/-- ITS FALSE NEIGHBOUR: 'it returns false'. Refute it at one input. -/
def delimMatchesWrong : ChangeSpec := { name := "delimMatches", fn := fun _ => fun
  | [d] => { results := [.lit (.bool false)], args := [d] }
  | _ => none }
def DelimMatchesWrongFalsely : Prop := delimMatchesRow.holds Try.pinned (OpenSpec.ofChange delimMatchesWrong)

/-- 'rubricatorlaw20.DelimNests': WHATEVER THE INPUT: true; the input reads as it did. -/
def delimNestsSpec : ChangeSpec := { name := "delimNests", fn := fun _ => fun
  | [d] => { results := [.lit (.bool true)], args := [d] }
  | _ => none }
def delimNestsRow : OpenClaim := { program := "ytojmhdooglihaaa", sum := "460d8a820462d8f0067b2f0912268440373bd690bbaa23204c0d9d32a827d79e", func := "rubricator/rubricatorlaw20.DelimNests", spec := "delimNests", apart := false }
def DelimNestsSaid : Prop := delimNestsRow.holds Try.pinned (OpenSpec.ofChange delimNestsSpec)

/-- ITS FALSE NEIGHBOUR: 'it returns false'. Refute it at one input. -/
def delimNestsWrong : ChangeSpec := { name := "delimNests", fn := fun _ => fun
  | [d] => { results := [.lit (.bool false)], args := [d] }
  | _ => none }
def DelimNestsWrongFalsely : Prop := delimNestsRow.holds Try.pinned (OpenSpec.ofChange delimNestsWrong)

/-- 'rubricatorlaw20.DelimNone': WHATEVER THE INPUT: true; the input reads as it did. -/
def delimNoneSpec : ChangeSpec := { name := "delimNone", fn := fun _ => fun
  | [d] => { results := [.lit (.bool true)], args := [d] }
  | _ => none }
def delimNoneRow : OpenClaim := { program := "ytojmhdooglihaaa", sum := "460d8a820462d8f0067b2f0912268440373bd690bbaa23204c0d9d32a827d79e", func := "rubricator/rubricatorlaw20.DelimNone", spec := "delimNone", apart := false }
def DelimNoneSaid : Prop := delimNoneRow.holds Try.pinned (OpenSpec.ofChange delimNoneSpec)

/-- ITS FALSE NEIGHBOUR: 'it returns false'. Refute it at one input. -/
def delimNoneWrong : ChangeSpec := { name := "delimNone", fn := fun _ => fun
  | [d] => { results := [.lit (.bool false)], args := [d] }
  | _ => none }
def DelimNoneWrongFalsely : Prop := delimNoneRow.holds Try.pinned (OpenSpec.ofChange delimNoneWrong)

/-- 'rubricatorlaw20.DelimEven': WHATEVER THE INPUT: true; the input reads as it did. -/
def delimEvenSpec : ChangeSpec := { name := "delimEven", fn := fun _ => fun
  | [d] => { results := [.lit (.bool true)], args := [d] }
  | _ => none }
def delimEvenRow : OpenClaim := { program := "ytojmhdooglihaaa", sum := "460d8a820462d8f0067b2f0912268440373bd690bbaa23204c0d9d32a827d79e", func := "rubricator/rubricatorlaw20.DelimEven", spec := "delimEven", apart := false }
def DelimEvenSaid : Prop := delimEvenRow.holds Try.pinned (OpenSpec.ofChange delimEvenSpec)

/-- ITS FALSE NEIGHBOUR: 'it returns false'. Refute it at one input. -/
def delimEvenWrong : ChangeSpec := { name := "delimEven", fn := fun _ => fun
  | [d] => { results := [.lit (.bool false)], args := [d] }
  | _ => none }
def DelimEvenWrongFalsely : Prop := delimEvenRow.holds Try.pinned (OpenSpec.ofChange delimEvenWrong)

/-- 'rubricatorlaw20.DelimLooks': WHATEVER THE INPUT: true; the input reads as it did. -/
def delimLooksSpec : ChangeSpec := { name := "delimLooks", fn := fun _ => fun
  | [d1, d2, d3, d4] => { results := [.lit (.bool true)], args := [d1, d2, d3, d4] }
  | _ => none }
def delimLooksRow : OpenClaim := { program := "ytojmhdooglihaaa", sum := "460d8a820462d8f0067b2f0912268440373bd690bbaa23204c0d9d32a827d79e", func := "rubricator/rubricatorlaw20.DelimLooks", spec := "delimLooks", apart := false }
def DelimLooksSaid : Prop := delimLooksRow.holds Try.pinned (OpenSpec.ofChange delimLooksSpec)

/-- ITS FALSE NEIGHBOUR: 'it returns false'. Refute it at one input. -/
def delimLooksWrong : ChangeSpec := { name := "delimLooks", fn := fun _ => fun
  | [d1, d2, d3, d4] => { results := [.lit (.bool false)], args := [d1, d2, d3, d4] }
  | _ => none }
def DelimLooksWrongFalsely : Prop := delimLooksRow.holds Try.pinned (OpenSpec.ofChange delimLooksWrong)

/-- 'rubricatorlaw20.DelimFlips': WHATEVER THE INPUT: true; the input reads as it did. -/
def delimFlipsSpec : ChangeSpec := { name := "delimFlips", fn := fun _ => fun
  | [d1, d2, d3] => { results := [.lit (.bool true)], args := [d1, d2, d3] }
  | _ => none }
def delimFlipsRow : OpenClaim := { program := "ytojmhdooglihaaa", sum := "460d8a820462d8f0067b2f0912268440373bd690bbaa23204c0d9d32a827d79e", func := "rubricator/rubricatorlaw20.DelimFlips", spec := "delimFlips", apart := false }
def DelimFlipsSaid : Prop := delimFlipsRow.holds Try.pinned (OpenSpec.ofChange delimFlipsSpec)

/-- ITS FALSE NEIGHBOUR: 'it returns false'. Refute it at one input. -/
def delimFlipsWrong : ChangeSpec := { name := "delimFlips", fn := fun _ => fun
  | [d1, d2, d3] => { results := [.lit (.bool false)], args := [d1, d2, d3] }
  | _ => none }
def DelimFlipsWrongFalsely : Prop := delimFlipsRow.holds Try.pinned (OpenSpec.ofChange delimFlipsWrong)

/- THE SECOND FORM. 'bulk': how many values and letters a reading holds, each counted each time it is reached (what is shared counts as often as it is met; a slice's spare places count too). A statement '..UptoSaid' is the law's where the arguments, and the package variables that the reading takes, are together of bulk at most 1048576: NARROWER than '..Said'. Prove '..Said' where nothing that the law and all that it calls make is longer than what came in: it says more and counts as full. Else prove '..UptoSaid'. A law counts once. -/
mutual
def uptoBulk {H : Type} : DataW H → Nat
  | .lit (.string bytes) => bytes.length + 1
  | .lit _ => 1
  | .nil => 1
  | .ptr d => uptoBulk d + 1
  | .slice elems spare => uptoBulkAll elems + uptoBulkAll spare + 1
  | .agg parts => uptoBulkAll parts + 1
  | .iface _ d => uptoBulk d + 1
  | .map entries => uptoBulkEntries entries + 1
  | .held _ => 1
def uptoBulkAll {H : Type} : List (DataW H) → Nat
  | [] => 0
  | d :: r => uptoBulk d + uptoBulkAll r
def uptoBulkEntries {H : Type} : List (Lit × DataW H) → Nat
  | [] => 0
  | x :: r => uptoBulkEntry x + uptoBulkEntries r
def uptoBulkEntry {H : Type} : Lit × DataW H → Nat
  | (.string bytes, d) => bytes.length + uptoBulk d + 1
  | (_, d) => uptoBulk d + 1
 end
def uptoSmall : (H : Type) → List (DataW H) → Bool := fun _ ds => decide (uptoBulkAll ds ≤ 1048576)
def OpenSpec.upto (s : _root_.Go.ChangeSpec) : _root_.Go.OpenSpec := { _root_.Go.OpenSpec.ofChange s with cond := some uptoSmall }

/-- 'rubricatorlaw20.DelimMatches', WHERE WHAT IT READS IS OF BULK AT MOST 1048576: true; the input reads as it did. -/
def delimMatchesUptoRow : OpenClaim := { program := "ytojmhdooglihaaa", sum := "460d8a820462d8f0067b2f0912268440373bd690bbaa23204c0d9d32a827d79e", func := "rubricator/rubricatorlaw20.DelimMatches", spec := "delimMatches", apart := false, narrowed := true }
def DelimMatchesUptoSaid : Prop := delimMatchesUptoRow.holds Try.pinned (OpenSpec.upto delimMatchesSpec)

/-- 'rubricatorlaw20.DelimNests', WHERE WHAT IT READS IS OF BULK AT MOST 1048576: true; the input reads as it did. -/
def delimNestsUptoRow : OpenClaim := { program := "ytojmhdooglihaaa", sum := "460d8a820462d8f0067b2f0912268440373bd690bbaa23204c0d9d32a827d79e", func := "rubricator/rubricatorlaw20.DelimNests", spec := "delimNests", apart := false, narrowed := true }
def DelimNestsUptoSaid : Prop := delimNestsUptoRow.holds Try.pinned (OpenSpec.upto delimNestsSpec)

/-- 'rubricatorlaw20.DelimNone', WHERE WHAT IT READS IS OF BULK AT MOST 1048576: true; the input reads as it did. -/
def delimNoneUptoRow : OpenClaim := { program := "ytojmhdooglihaaa", sum := "460d8a820462d8f0067b2f0912268440373bd690bbaa23204c0d9d32a827d79e", func := "rubricator/rubricatorlaw20.DelimNone", spec := "delimNone", apart := false, narrowed := true }
def DelimNoneUptoSaid : Prop := delimNoneUptoRow.holds Try.pinned (OpenSpec.upto delimNoneSpec)

/-- 'rubricatorlaw20.DelimEven', WHERE WHAT IT READS IS OF BULK AT MOST 1048576: true; the input reads as it did. -/
def delimEvenUptoRow : OpenClaim := { program := "ytojmhdooglihaaa", sum := "460d8a820462d8f0067b2f0912268440373bd690bbaa23204c0d9d32a827d79e", func := "rubricator/rubricatorlaw20.DelimEven", spec := "delimEven", apart := false, narrowed := true }
def DelimEvenUptoSaid : Prop := delimEvenUptoRow.holds Try.pinned (OpenSpec.upto delimEvenSpec)

/-- 'rubricatorlaw20.DelimLooks', WHERE WHAT IT READS IS OF BULK AT MOST 1048576: true; the input reads as it did. -/
def delimLooksUptoRow : OpenClaim := { program := "ytojmhdooglihaaa", sum := "460d8a820462d8f0067b2f0912268440373bd690bbaa23204c0d9d32a827d79e", func := "rubricator/rubricatorlaw20.DelimLooks", spec := "delimLooks", apart := false, narrowed := true }
def DelimLooksUptoSaid : Prop := delimLooksUptoRow.holds Try.pinned (OpenSpec.upto delimLooksSpec)

/-- 'rubricatorlaw20.DelimFlips', WHERE WHAT IT READS IS OF BULK AT MOST 1048576: true; the input reads as it did. -/
def delimFlipsUptoRow : OpenClaim := { program := "ytojmhdooglihaaa", sum := "460d8a820462d8f0067b2f0912268440373bd690bbaa23204c0d9d32a827d79e", func := "rubricator/rubricatorlaw20.DelimFlips", spec := "delimFlips", apart := false, narrowed := true }
def DelimFlipsUptoSaid : Prop := delimFlipsUptoRow.holds Try.pinned (OpenSpec.upto delimFlipsSpec)

end Rows
end Go.Proofs.Ytojmhdooglihaaa
