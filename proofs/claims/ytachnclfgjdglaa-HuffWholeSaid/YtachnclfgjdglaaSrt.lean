/- The insertion sort of the library as a law on lists: each element is laid behind all that are not greater. Plain law; no conditions but those that each theorem says. -/
import Derived.Shelf.SlSortCmp.InsertionK
namespace Go.Proofs.YtachnclfgjdglaaSrt
open Go.Sort
set_option linter.unusedVariables false
variable {α : Type} (lt : α → α → Bool)

/-- x into a falling row (a row that rises, seen from its end) -/
def rI (x : α) : List α → List α
  | [] => [x]
  | y :: q => if lt x y = true then y :: rI x q else x :: y :: q
/-- all of a row into a falling one -/
def sr : List α → List α → List α
  | [], acc => acc
  | x :: t, acc => sr t (rI lt x acc)
/-- a row in order; what is equal stays in order -/
def srt (l : List α) : List α := (sr lt l []).reverse
theorem rI_length (x : α) : ∀ q, (rI lt x q).length = q.length + 1
  | [] => rfl
  | y :: q => by
    rw [rI]
    split
    · rw [List.length_cons, rI_length x q, List.length_cons]
    · rfl
theorem sr_length : ∀ l acc, (sr lt l acc).length = l.length + acc.length
  | [], acc => by simp [sr]
  | x :: t, acc => by rw [sr, sr_length t, rI_length, List.length_cons]; omega
theorem srt_length (l : List α) : (srt lt l).length = l.length := by rw [srt, List.length_reverse, sr_length]; rfl
theorem rI_perm (x : α) : ∀ q, (rI lt x q).Perm (x :: q)
  | [] => .refl _
  | y :: q => by
    rw [rI]
    split
    · exact ((rI_perm x q).cons y).trans (.swap _ _ _)
    · exact .refl _
theorem sr_perm : ∀ l acc, (sr lt l acc).Perm (l ++ acc)
  | [], acc => .refl _
  | x :: t, acc => by
    rw [sr]
    exact (sr_perm t _).trans (((rI_perm lt x acc).append_left t).trans List.perm_middle)
theorem srt_perm (l : List α) : (srt lt l).Perm l := by
  rw [srt]
  exact (List.reverse_perm _).trans (by simpa using sr_perm lt l [])
theorem rI_map {β : Type} (f : α → β) (lt' : β → β → Bool) (h : ∀ x y, lt x y = lt' (f x) (f y)) (x : α) : ∀ q, (rI lt x q).map f = rI lt' (f x) (q.map f)
  | [] => rfl
  | y :: q => by
    rw [rI, List.map_cons, rI, h]
    split
    · rw [List.map_cons, rI_map f lt' h x q]
    · rfl
theorem sr_map {β : Type} (f : α → β) (lt' : β → β → Bool) (h : ∀ x y, lt x y = lt' (f x) (f y)) : ∀ l acc, (sr lt l acc).map f = sr lt' (l.map f) (acc.map f)
  | [], acc => rfl
  | x :: t, acc => by rw [sr, List.map_cons, sr, sr_map f lt' h t, rI_map lt f lt' h]
theorem srt_map {β : Type} (f : α → β) (lt' : β → β → Bool) (h : ∀ x y, lt x y = lt' (f x) (f y)) (l : List α) : (srt lt l).map f = srt lt' (l.map f) := by
  rw [srt, List.map_reverse, sr_map lt f lt' h]
  rfl
/-! ### the library's loops -/
theorem swp_list [Inhabited α] (L r : List α) (y x : α) (d : Array α) (h : d.toList = L ++ y :: x :: r) : (swp d (L.length + 1) L.length).toList = L ++ x :: y :: r := by
  have hs : d.size = L.length + (r.length + 2) := by rw [← Array.length_toList, h]; simp
  have g1 : d[L.length]! = y := by
    rw [getElem!_pos d _ (by omega), ← Array.getElem_toList]
    simp [h]
  have g2 : d[L.length + 1]! = x := by
    rw [getElem!_pos d _ (by omega), ← Array.getElem_toList]
    simp [h]
  unfold swp
  rw [g1, g2, Array.toList_setIfInBounds, Array.toList_setIfInBounds, h]
  rw [List.set_append_right _ _ (by omega), show L.length + 1 - L.length = 1 by omega, List.set_append_right _ _ (Nat.le_refl _), Nat.sub_self]
  rfl
theorem inner_list [Inhabited α] (A r : List α) (x : α) : ∀ (p : List α) (d : Array α), d.toList = A ++ p.reverse ++ x :: r → (insInner lt A.length (A.length + p.length) d).toList = A ++ (rI lt x p).reverse ++ r
  | [], d, h => by
    rw [List.length_nil, Nat.add_zero]
    have e : insInner lt A.length A.length d = d := by
      cases hA : A.length with
      | zero => rfl
      | succ n => rw [insInner, if_neg (by simp)]
    rw [e, h]
    simp [rI]
  | y :: q, d, h => by
    have h' : d.toList = (A ++ q.reverse) ++ y :: x :: r := by rw [h]; simp
    have hl : (A ++ q.reverse).length = A.length + q.length := by simp
    have hs : d.size = A.length + q.length + (r.length + 2) := by rw [← Array.length_toList, h']; simp; omega
    have g1 : d[A.length + q.length]! = y := by
      rw [getElem!_pos d _ (by omega), ← Array.getElem_toList]
      simp [h']
    have g2 : d[A.length + q.length + 1]! = x := by
      rw [getElem!_pos d _ (by omega), ← Array.getElem_toList]
      simp only [h']
      rw [List.getElem_append_right (by omega)]
      simp only [hl, show A.length + q.length + 1 - (A.length + q.length) = 1 by omega, List.getElem_cons_succ, List.getElem_cons_zero]
    rw [List.length_cons, show A.length + (q.length + 1) = (A.length + q.length) + 1 from rfl, insInner, g1, g2, rI]
    by_cases hlt : lt x y = true
    · rw [hlt, if_pos rfl, if_pos (by simp; omega)]
      have hw := swp_list (A ++ q.reverse) r y x d h'
      rw [hl] at hw
      have := inner_list A (y :: r) x q (swp d (A.length + q.length + 1) (A.length + q.length)) (by rw [hw])
      rw [this]
      simp
    · rw [if_neg hlt, if_neg (by simp [hlt]), h]
      simp
theorem outer_list [Inhabited α] (A B : List α) : ∀ (t acc : List α) (d : Array α), d.toList = A ++ acc.reverse ++ t ++ B → (insOuter lt A.length (A.length + acc.length + t.length) (A.length + acc.length) d).toList = A ++ (sr lt t acc).reverse ++ B
  | [], acc, d, h => by
    rw [insOuter, if_neg (by simp), h, sr]
    simp
  | x :: t, acc, d, h => by
    rw [insOuter, if_pos (by simp), sr]
    have h1 := inner_list lt A (t ++ B) x acc d (by rw [h]; simp)
    have h2 := outer_list A B t (rI lt x acc) (insInner lt A.length (A.length + acc.length) d) (by rw [h1]; simp)
    rw [rI_length] at h2
    rw [show A.length + acc.length + (x :: t).length = A.length + (acc.length + 1) + t.length by simp; omega, show A.length + acc.length + 1 = A.length + (acc.length + 1) from rfl]
    exact h2
theorem insertion_list [Inhabited α] (A t B : List α) (d : Array α) (h : d.toList = A ++ t ++ B) : (insertionSort lt d A.length (A.length + t.length)).toList = A ++ srt lt t ++ B := by
  unfold insertionSort
  cases t with
  | nil =>
    rw [insOuter, if_neg (by simp), h]
    rfl
  | cons x t =>
    have := outer_list lt A B t [x] d (by rw [h]; simp)
    rw [show A.length + (x :: t).length = A.length + [x].length + t.length by simp; omega]
    exact this
theorem insertion_all [Inhabited α] (d : Array α) : (insertionSort lt d 0 d.size).toList = srt lt d.toList := by
  have := insertion_list lt [] d.toList [] d (by simp)
  simpa using this
theorem insertionSort_size [Inhabited α] (d : Array α) : (insertionSort lt d 0 d.size).size = d.size := by
  rw [← Array.length_toList, insertion_all, srt_length, Array.length_toList]
end Go.Proofs.YtachnclfgjdglaaSrt
