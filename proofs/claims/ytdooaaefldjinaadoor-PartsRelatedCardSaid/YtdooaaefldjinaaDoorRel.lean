/- A part's relationships' part, what stands behind the last stroke and the last point. Sizes below 1000000. -/
import Derived.Test.YtdooaaefldjinaaDoorPAx7
import Derived.Test.YtdooaaefldjinaaDoorRes
namespace Go.Proofs.YtdooaaefldjinaaDoor.Pcs
open Go.RowKit Go.Proofs.YtdooaaefldjinaaDoor.PA Go.Proofs.YtdooaaefldjinaaDoorW.PrintWords Go.Proofs.YtdooaaefldjinaaDoorW.PrintLast Go.Proofs.YtdooaaefldjinaaDoorAid
set_option linter.unusedVariables false
set_option linter.unusedSimpArgs false
theorem stroke_eq : ∀ (k : Nat) (x : ByteArray) (i : Int), rubricatorref12_stroke.l0 k x i = bytealg_LastIndexByteString.l0 k x 47 i
  | 0, x, i => rfl
  | k + 1, x, i => by
    rw [rubricatorref12_stroke.l0, bytealg_LastIndexByteString.l0, stroke_eq k]
theorem stroke_ev (s : ByteArray) (hs : s.size ≤ 1000000) : Ev (fun k => rubricatorref12_stroke.f k s) (lastI s.data.toList 47) := by
  have h := last_ev s hs 47
  refine Ev.congr (fun k => ?_) h
  unfold rubricatorref12_stroke.f bytealg_LastIndexByteString.f
  rw [stroke_eq]
  rfl
def restL (l : List UInt8) : List UInt8 := l.drop ((lastI l 47) + 1).toNat
def relsL (l : List UInt8) : List UInt8 := ((dirL l ++ [47, 95, 114, 101, 108, 115, 47]) ++ restL l) ++ [46, 114, 101, 108, 115]
theorem last_range (s : ByteArray) (c : UInt8) : -1 ≤ lastI s.data.toList c ∧ lastI s.data.toList c < (s.size : Int) := by
  have hr := lastTo_range s.data.toList c s.data.toList.length
  unfold lastI
  rw [data_length] at hr ⊢
  exact hr
theorem ext_dir (s : ByteArray) : s.extract 0 (lastI s.data.toList 47).toNat = ba (dirL s.data.toList) := by
  rw [ext_ba, List.drop_zero, Nat.sub_zero]
  rfl
theorem ext_rest (s : ByteArray) (j : Nat) : s.extract j s.size = ba (s.data.toList.drop j) := by
  rw [ext_ba]
  congr 1
  exact List.take_of_length_le (by rw [List.length_drop, data_length]; exact Nat.le_refl _)
theorem dir_le (s : ByteArray) : (dirL s.data.toList).length ≤ s.size ∧ (restL s.data.toList).length ≤ s.size := by
  unfold dirL restL
  rw [List.length_take, List.length_drop, data_length]
  omega
theorem lit7 : (⟨#[47, 95, 114, 101, 108, 115, 47]⟩ : ByteArray) = ba [47, 95, 114, 101, 108, 115, 47] := rfl
theorem lit5 : (⟨#[46, 114, 101, 108, 115]⟩ : ByteArray) = ba [46, 114, 101, 108, 115] := rfl
theorem rels_ev (s : ByteArray) (hs : s.size ≤ 1000000) : Ev (fun k => parts_Rels.f k s) (ba (relsL s.data.toList)) := by
  unfold parts_Rels.f
  refine Ev.bind (split_ev s hs) ?_
  obtain ⟨h1, h2⟩ := dir_le s
  have h2' : (s.data.toList.drop ((lastI s.data.toList 47) + 1).toNat).length ≤ s.size := h2
  simp only [lit7, lit5, ba_app, ba_size, List.length_append]
  refine ev_if (by omega) (ev_if (by simp; omega) (ev_if (by simp; omega) (ev_val rfl)))
theorem ref_rels_ev (s : ByteArray) (hs : s.size ≤ 1000000) : Ev (fun k => rubricatorref12_Rels.f k s) (ba (relsL s.data.toList)) := by
  unfold rubricatorref12_Rels.f
  obtain ⟨h1, h2⟩ := last_range s 47
  refine Ev.bind (stroke_ev s hs) (ev_if ⟨hs, h1, h2⟩ (ev_val ?_))
  rw [ext_dir, ext_rest, lit7, lit5, ba_app, ba_app, ba_app]
  rfl
def extV (q : ByteArray) (t : Int) : ByteArray := if t < 0 then ⟨#[]⟩ else strOfNums (parts_lower.lowL (q.extract (t + 1).toNat q.size))
theorem lower_f (x : ByteArray) (h : x.size ≤ 1000000) : parts_lower.f x = some (strOfNums (parts_lower.lowL x)) ∧ rubricatorref12_Lower.f x = some (strOfNums (parts_lower.lowL x)) := by
  unfold parts_lower.f rubricatorref12_Lower.f
  rw [if_pos (by omega), if_pos (by omega)]
  exact ⟨rfl, rfl⟩
theorem last_same (l : List UInt8) : ∀ n, rubricatorref12_Ext.last l n = lastTo l 46 n
  | 0 => rfl
  | n + 1 => by rw [rubricatorref12_Ext.last, lastTo, last_same l n]
theorem of_same (l : List UInt8) : rubricatorref12_Ext.of_ (ba l) = extV (ba l) (lastI l 46) := by
  unfold rubricatorref12_Ext.of_ rubricatorref12_Ext.val extV
  rw [last_same, data_ba, ba_size]
  rfl
theorem pext_ev (s : ByteArray) (hs : s.size ≤ 1000000) : Ev (fun k => parts_Ext.f k s) (extV (ba (restL s.data.toList)) (lastI (restL s.data.toList) 46)) := by
  unfold parts_Ext.f strings_LastIndexByte.f
  refine Ev.bind (split_ev s hs) ?_
  obtain ⟨_, h2⟩ := dir_le s
  have hz : (ba (restL s.data.toList)).size ≤ 1000000 := by rw [ba_size]; omega
  have hr := last_range (ba (restL s.data.toList)) 46
  rw [data_ba] at hr
  have hl := last_ev (ba (restL s.data.toList)) hz 46
  rw [data_ba] at hl
  refine Ev.bind (Ev.bind hl (ev_val rfl)) ?_
  obtain ⟨q, hq⟩ : ∃ q, ba (restL s.data.toList) = q := ⟨_, rfl⟩
  have hq2 : ba (s.data.toList.drop (lastI s.data.toList 47 + 1).toNat) = q := hq
  obtain ⟨t, ht⟩ : ∃ t, lastI (restL s.data.toList) 46 = t := ⟨_, rfl⟩
  rw [hq] at hz
  rw [hq, ht] at hr
  simp only [hq2]
  rw [hq, ht]
  by_cases h0 : t < 0
  · have e : extV q t = ⟨#[]⟩ := by unfold extV; rw [if_pos h0]
    rw [e]
    exact ev_if h0 (ev_val rfl)
  · have e : extV q t = strOfNums (parts_lower.lowL (q.extract (t + 1).toNat q.size)) := by unfold extV; rw [if_neg h0]
    have ew : wrap64 (t + 1) = t + 1 := by unfold wrap64; omega
    rw [e, ew]
    refine ev_else h0 (ev_if (by omega) (ev_if (by omega) ?_))
    exact Ev.bind (ev_const (lower_f _ (by rw [ByteArray.size_extract]; omega)).1) (ev_val rfl)
theorem rext_ev (s : ByteArray) (hs : s.size ≤ 1000000) : Ev (fun k => rubricatorref12_Ext.f k s) (extV (ba (restL s.data.toList)) (lastI (restL s.data.toList) 46)) := by
  unfold rubricatorref12_Ext.f
  obtain ⟨h1, h2⟩ := last_range s 47
  refine Ev.bind (stroke_ev s hs) (ev_if ⟨hs, h1, h2⟩ (ev_val ?_))
  rw [ext_rest]
  exact of_same _
end Go.Proofs.YtdooaaefldjinaaDoor.Pcs
