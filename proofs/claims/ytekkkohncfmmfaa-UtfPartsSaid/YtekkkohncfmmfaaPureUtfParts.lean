/- Of two texts side by side, the first one whole, lines and runes are those of both. No conditions. -/
import Derived.Test.YtekkkohncfmmfaaPAx5
import Derived.Test.YtekkkohncfmmfaaParts
namespace Go.Proofs.Ytekkkohncfmmfaa.Pure
open Go.RowKit Go.Proofs Go.Proofs.Ytekkkohncfmmfaa.PA Go.Proofs.YtekkkohncfmmfaaW.PrintWords Go.Proofs.YtekkkohncfmmfaaW.PrintLast
open Go.Proofs.YtekkkohncfmmfaaAid Go.Proofs.YtekkkohncfmmfaaDec Go.Proofs.Ytekkkohncfmmfaa.Lin Go.Proofs.Ytekkkohncfmmfaa.Par
theorem lines_length (s : ByteArray) : (linesOf s).length ≤ s.size + 1 := by
  have := spec_length (from_ s 0) [] false
  have e : (from_ s 0).length = s.size := by unfold from_; simp
  unfold linesOf
  omega
theorem count_f (s : ByteArray) (h : s.size ≤ 3001) : utf_Count.f s = some (utf_Count.from s.size s 0 : Int) := by
  unfold utf_Count.f
  rw [if_pos (by omega)]
theorem count_le (s : ByteArray) : ∀ (d p : Nat), utf_Count.from d s p ≤ d
  | 0, p => Nat.le_refl _
  | d + 1, p => by
    rw [utf_Count.from]
    split
    · have := count_le s d (p + (Utf8.decode s p).2)
      omega
    · omega
theorem w64_nat (x y z : Nat) (h : z = x + y) (hx : x ≤ 3001) (hy : y ≤ 3001) : (z : Int) = wrap64 ((x : Int) + (y : Int)) := by
  unfold wrap64
  omega
theorem ev_const {α : Type} {o : Option α} {r : α} (h : o = some r) : Ev (fun _ => o) r := ⟨0, fun _ _ => h⟩
theorem joined (x y : List UInt8) : (⟨(x ++ y).toArray⟩ : ByteArray) = (⟨x.toArray⟩ : ByteArray) ++ (⟨y.toArray⟩ : ByteArray) := by
  apply ByteArray.ext
  apply Array.toList_inj.1
  simp
theorem UtfParts : rubricatorlaw7_UtfParts.Pure := by
  intro a b ha hb
  refine Ev.rounds ?_
  unfold rubricatorlaw7_UtfParts.f
  have hw : wrap64 ((a.size : Int) + (b.size : Int)) = ((a.size + b.size : Nat) : Int) := by unfold wrap64; omega
  have over : ∀ x, x = true → Ev (fun k => rubricatorlaw7_UtfParts.j0 k a b x) true := by
    intro x hx
    refine ev_succ ?_
    simp only [rubricatorlaw7_UtfParts.j0]
    exact ev_if hx (ev_val rfl)
  rw [hw]
  by_cases h : ((a.size + b.size : Nat) : Int) > 3000
  · exact ev_if h (over true rfl)
  refine ev_else h ?_
  have h3 : a.size + b.size ≤ 3000 := by omega
  obtain ⟨v, hv, hV⟩ := valid_l0 a (by omega) a.size 0 (by omega) (by omega)
  refine Ev.bind hv ?_
  cases v with
  | false => exact over _ rfl
  | true =>
    have hW := hV rfl
    have s1 : (a ++ (⟨#[10]⟩ : ByteArray)).size = a.size + 1 := by rw [ByteArray.size_append]; rfl
    have s2 : ((a ++ (⟨#[10]⟩ : ByteArray)) ++ b).size = a.size + 1 + b.size := by rw [ByteArray.size_append, s1]
    have s3 : (a ++ b).size = a.size + b.size := by rw [ByteArray.size_append]
    have l1 := lines_length (a ++ (⟨#[10]⟩ : ByteArray))
    have l2 := lines_length b
    have l3 := lines_length ((a ++ (⟨#[10]⟩ : ByteArray)) ++ b)
    have r1 := repair_length a a.size 0
    have r2 := repair_length b b.size 0
    have c1 := count_le a a.size 0
    have c2 := count_le b b.size 0
    have hc : utf_Count.from (a ++ b).size (a ++ b) 0 = utf_Count.from a.size a 0 + utf_Count.from b.size b 0 := by
      rw [count_left a b 0 hW (a ++ b).size (by omega) (by omega), count_more a (a ++ b).size a.size 0 (by omega) (by omega), count_more b (a ++ b).size b.size 0 (by omega) (by omega)]
    have hr : utf_Repair.from (a ++ b).size (a ++ b) 0 = utf_Repair.from a.size a 0 ++ utf_Repair.from b.size b 0 := by
      rw [repair_left a b 0 hW (a ++ b).size (by omega) (by omega), repair_more a (a ++ b).size a.size 0 (by omega) (by omega), repair_more b (a ++ b).size b.size 0 (by omega) (by omega)]
    refine ev_succ ?_
    simp only [rubricatorlaw7_UtfParts.j0]
    refine ev_else (by simp) (ev_if (by omega) ?_)
    refine Ev.bind (ev_const (lines_f (a ++ (⟨#[10]⟩ : ByteArray)) (by omega))) (Ev.bind (ev_const (lines_f b (by omega))) (ev_if (by omega) (ev_if (by omega) ?_)))
    have hl : (linesOf (a ++ (⟨#[10]⟩ : ByteArray)) ++ linesOf b).length ≤ 9223372036854775806 := by rw [List.length_append]; omega
    have tx := texts_same (linesOf (a ++ (⟨#[10]⟩ : ByteArray)) ++ linesOf b) hl
    have lj := lines_f ((a ++ (⟨#[10]⟩ : ByteArray)) ++ b) (by omega)
    rw [lines_append] at lj
    refine Ev.bind (ev_const lj) (Ev.bind tx (ev_if rfl (ev_if (by omega) ?_)))
    refine Ev.bind (ev_const (count_f (a ++ b) (by omega))) (Ev.bind (ev_const (count_f a (by omega))) (Ev.bind (ev_const (count_f b (by omega))) ?_))
    refine ev_if (w64_nat _ _ _ hc (Nat.le_trans c1 (by omega)) (Nat.le_trans c2 (by omega))) (ev_if (by omega) ?_)
    refine Ev.bind (ev_const (repair_f (a ++ b) (by omega))) (ev_if (by omega) (Ev.bind (ev_const (repair_f a (by omega))) (ev_if (by omega) (Ev.bind (ev_const (repair_f b (by omega))) (ev_if ?_ (ev_if ?_ ?_))))))
    · have e1 : (⟨(utf_Repair.from a.size a 0).toArray⟩ : ByteArray).size = (utf_Repair.from a.size a 0).length := rfl
      have e2 : (⟨(utf_Repair.from b.size b 0).toArray⟩ : ByteArray).size = (utf_Repair.from b.size b 0).length := rfl
      omega
    · rw [hr, joined]
    · exact Ev.bind (ev_const known_f) (ev_val rfl)
end Go.Proofs.Ytekkkohncfmmfaa.Pure
