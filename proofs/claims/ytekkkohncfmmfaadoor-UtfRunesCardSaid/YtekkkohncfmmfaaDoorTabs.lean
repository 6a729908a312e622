/- The two tables of unicode/utf8 out of what the rows lay; the three laws' walks over what the rows lay. No conditions. -/
import Derived.Test.YtekkkohncfmmfaaDoorTables
import Derived.Test.YtekkkohncfmmfaaDoorPlain
import Derived.Test.YtekkkohncfmmfaaDoorRows
import Derived.Lib.LaidU8T
import Derived.LaidMore
import Derived.Lay
namespace Go.Proofs.YtekkkohncfmmfaaDoor.PA
open Go.RowKit Go.Shelf Go.Lib Go.Proofs.YtekkkohncfmmfaaDoorW.PrintWords Go.Proofs.YtekkkohncfmmfaaDoor.Plain Go.Proofs.YtekkkohncfmmfaaDoorAid Go.Proofs.YtekkkohncfmmfaaDoorDec
set_option linter.unusedVariables false
def tabs_ren : Go.Shelf.Ren := ⟨fun n => n, fun | 119 => 49 | 138 => 51 | 139 => 52 | n => n, fun | 3 => 0 | 4 => 1 | n => n⟩
theorem tabs_types : U8Types Tryd.prog tabs_ren := ⟨Tryd.underlying5, Tryd.underlying49, Tryd.underlying51, Tryd.underlying52⟩
theorem tabs_extra : U8Extra Tryd.prog tabs_ren := ⟨by kernel_rfl, by kernel_rfl, by kernel_rfl, by kernel_rfl, by kernel_rfl, by kernel_rfl, by kernel_rfl⟩
theorem first_is : (Rows.laid_unicode_utf8_first : DataW Unit) = firstData := by kernel_rfl
theorem accept_is : (Rows.laid_unicode_utf8_acceptRanges : DataW Unit) = acceptData := by kernel_rfl
theorem tabs_of {w : World} (h : laidMetH Tryd.prog [("unicode/utf8.acceptRanges", Rows.laid_unicode_utf8_acceptRanges), ("unicode/utf8.first", Rows.laid_unicode_utf8_first)] w) : Lib.Utf8Tabs 0 1 w := by
  rw [MakeChecks.laidMetH_plain _ _ _ (by kernel_rfl), first_is, accept_is] at h
  exact utf8Tabs_of_readsT tabs_types tabs_extra (Lib.laidMet.reads h (.tail _ (.head _))) (Lib.laidMet.reads h (.head _))
theorem bytes_of {l : List Int} (h : ∀ y ∈ l, (Lit.int .u8 y).wf = true) : ∃ s : ByteArray, l = bytesOf s := by
  refine ⟨⟨(l.map fun y => y.toNat.toUInt8).toArray⟩, ?_⟩
  unfold bytesOf
  rw [show ((⟨(List.map (fun y : Int => y.toNat.toUInt8) l).toArray⟩ : ByteArray).data.toList) = List.map (fun y : Int => y.toNat.toUInt8) l from by simp, List.map_map]
  conv => lhs; rw [← List.map_id l]
  refine List.map_congr_left fun x hx => ?_
  have := wf_u8 (h x hx)
  show x = ((x.toNat.toUInt8).toNat : Int)
  simp
  omega
theorem rubricatorlaw7_UtfRepairs.walk (A : Option Addr) (ca : Nat) (l : List Int) (w : World) (hC : Kd.C (Kd.int .u8) w A l.length l) (hc : l.length ≤ ca) (_ : l.length ≤ maxLen) (_ : l.length * 1 ≤ 140737488351232) (hw : ∀ y ∈ l, (Lit.int .u8 y).wf = true) (hT : Lib.Utf8Tabs 0 1 w) :
    Calls Tryd.prog 3 #[.slice A l.length ca] w fun e w' => e = .returned (.bool true) ∧ Below w.heap.size w w' := by
  obtain ⟨s, rfl⟩ := bytes_of hw
  by_cases h : 3000 < (bytesOf s).length
  · exact law_out 3 A ca _ w h (.inl rfl)
  have hR := Rem.mk_ hC hc
  rw [bytesOf_length] at h ⊢
  obtain ⟨S, kk, h1, h2, h3, h4, h5⟩ := repairs_plain s (by omega)
  exact repairs_walk s S A ca s.size w kk hR hT (by omega) h1 h2 h3 h4 h5
theorem rubricatorlaw7_UtfValid.walk (A : Option Addr) (ca : Nat) (l : List Int) (w : World) (hC : Kd.C (Kd.int .u8) w A l.length l) (hc : l.length ≤ ca) (_ : l.length ≤ maxLen) (_ : l.length * 1 ≤ 140737488351232) (hw : ∀ y ∈ l, (Lit.int .u8 y).wf = true) (hT : Lib.Utf8Tabs 0 1 w) :
    Calls Tryd.prog 4 #[.slice A l.length ca] w fun e w' => e = .returned (.bool true) ∧ Below w.heap.size w w' := by
  obtain ⟨s, rfl⟩ := bytes_of hw
  by_cases h : 3000 < (bytesOf s).length
  · exact law_out 4 A ca _ w h (.inr rfl)
  have hR := Rem.mk_ hC hc
  rw [bytesOf_length] at h ⊢
  obtain ⟨rs, kk, h1⟩ := valid_plain s (by omega)
  exact valid_walk s A ca s.size rs.length (V s) rs w kk hR hT (by omega) rfl rfl h1
theorem rubricatorlaw7_UtfRunes.walk (a : Int) (w : World) (_ : (Lit.int .i32 a).wf = true) (hT : Lib.Utf8Tabs 0 1 w) :
    Calls Tryd.prog 5 #[.int .i32 a] w fun e w' => e = .returned (.bool true) ∧ Below w.heap.size w w' := by
  obtain ⟨s, C, W0, n, kk, rC, h1, h2, h3, h4, h5, h6, h7⟩ := runes_plain a
  exact runes_walk a s C W0 n rC w kk hT h1 h2 h3 h4 h5 h6 h7
end Go.Proofs.YtekkkohncfmmfaaDoor.PA
