/- What Resolve computes: a row of steps over a row of folders. Sizes below 1000000. -/
import Derived.Test.YtdooaaefldjinaaDoorPieces
namespace Go.Proofs.YtdooaaefldjinaaDoor.Pcs
open Go.RowKit Go.Proofs.YtdooaaefldjinaaDoor.PA Go.Proofs.YtdooaaefldjinaaDoorW.PrintWords Go.Proofs.YtdooaaefldjinaaDoorW.PrintLast Go.Proofs.YtdooaaefldjinaaDoorAid
set_option linter.unusedVariables false
set_option linter.unusedSimpArgs false
def run : List (List UInt8) → List (List UInt8) → Option (List (List UInt8))
  | st, [] => some st
  | st, p :: r => if p = [46] then run st r else if p = [46, 46] then (if st = [] then none else run st.dropLast r) else run (st ++ [p]) r
def nameOf (st : List (List UInt8)) : List UInt8 := 47 :: Lib.join st [47]
def fin (o : Option (List (List UInt8))) : List UInt8 × Bool := match o with
  | none => ([], false)
  | some st => if isN (nameOf st) then (nameOf st, true) else ([], false)
def dirL (l : List UInt8) : List UInt8 := l.take (lastI l 47).toNat
def allL (fr t : List UInt8) : List UInt8 := if t.head? = some 47 then t else (dirL fr ++ [47]) ++ t
def resV (fr t : List UInt8) : List UInt8 × Bool := if fr ≠ [] ∧ isN fr = false then ([], false) else if t = [] then ([], false) else fin (run [] (pcs ((allL fr t).drop 1)))
def bp (x : List UInt8 × Bool) : ByteArray × Bool := (ba x.1, x.2)
theorem map_data (st : List (List UInt8)) : (st.map ba).map (·.data.toList) = st := by
  rw [List.map_map]
  conv => rhs; rw [← List.map_id st]
  exact List.map_congr_left fun x _ => rfl
theorem ba_app (a b : List UInt8) : ba a ++ ba b = ba (a ++ b) := by
  apply ByteArray.ext
  apply Array.toList_inj.1
  rw [data_ba]
  simp [data_ba]
theorem end_ev (st : List (List UInt8)) (hs : st.length ≤ 1000001) (hp : ∀ p ∈ st, p.length ≤ 1000000) (hj : (Lib.join st [47]).length ≤ 999999) :
    Ev (fun k => (strings_Join.f (st.map ba) (⟨#[47]⟩ : ByteArray)).bind fun t129 => (if 1 + t129.size ≤ 9223372036854775807 then ((parts_Is.f k ((⟨#[47]⟩ : ByteArray) ++ t129)).bind fun t130 => (if t130 = true then (some ((⟨#[47]⟩ : ByteArray) ++ t129, true)) else (some ((⟨#[]⟩ : ByteArray), false)))) else (none))) (bp (fin (some st))) := by
  have h1 : strings_Join.f (st.map ba) (⟨#[47]⟩ : ByteArray) = some (ba (Lib.join st [47])) := by
    unfold strings_Join.f
    rw [map_data, List.length_map, if_pos]
    · rfl
    · exact ⟨by omega, by show (Lib.join st [47]).length ≤ _; omega⟩
  refine Ev.bind (ev_const h1) (ev_if (by rw [ba_size]; omega) ?_)
  have e : (⟨#[47]⟩ : ByteArray) ++ ba (Lib.join st [47]) = ba (nameOf st) := by
    rw [show (⟨#[47]⟩ : ByteArray) = ba [47] from rfl, ba_app]
    rfl
  rw [e]
  have := is_ev (ba (nameOf st)) (by rw [ba_size]; unfold nameOf; rw [List.length_cons]; omega)
  rw [data_ba] at this
  refine Ev.bind this ?_
  unfold fin
  simp only
  cases isN (nameOf st) with
  | true => exact ev_if rfl (ev_val rfl)
  | false => exact ev_else (by simp) (ev_val rfl)
theorem tot_app (st : List (List UInt8)) (p : List UInt8) : ((st ++ [p]).map List.length).sum = (st.map List.length).sum + p.length := by simp
theorem join_len : ∀ xs : List (List UInt8), (Lib.join xs [47]).length ≤ (xs.map List.length).sum + xs.length
  | [] => by simp [Lib.join_nil]
  | [x] => by rw [Lib.join_one]; simp
  | x :: y :: r => by
    have h2 := join_len (y :: r)
    have e : Lib.join (x :: y :: r) [47] = x ++ [47] ++ Lib.join (y :: r) [47] := by simp [Lib.join, List.intercalate]
    rw [e, List.length_append, List.length_append]
    simp only [List.map_cons, List.sum_cons, List.length_cons, List.length_nil] at h2 ⊢
    omega
theorem res_l0 (ps : List (List UInt8)) (hps : (ps.map List.length).sum + 2 * ps.length ≤ 900000) (hp : ∀ p ∈ ps, p.length ≤ 1000000) : ∀ (d i : Nat) (st : List (List UInt8)), ps.length ≤ i + d → i ≤ ps.length → (∀ p ∈ st, p.length ≤ 1000000) → st.length ≤ i → (st.map List.length).sum + ((ps.drop i).map List.length).sum ≤ (ps.map List.length).sum →
    Ev (fun k => parts_Resolve.l0 k (st.map ba) (ps.map ba) ((ps.map ba).length : Int) (i : Int)) (bp (fin (run st (ps.drop i)))) := by
  intro d
  induction d with
  | zero =>
    intro i st h1 h2 h3 h4 h5
    refine ev_succ ?_
    simp only [parts_Resolve.l0]
    refine ev_else (by rw [List.length_map]; omega) ?_
    rw [List.drop_eq_nil_of_le (by omega), run]
    have hj := join_len st
    exact end_ev st (by omega) h3 (by omega)
  | succ d ih =>
    intro i st h1 h2 h3 h4 h5
    refine ev_succ ?_
    simp only [parts_Resolve.l0]
    by_cases h : i < ps.length
    · have hm : i < (ps.map ba).length := by rw [List.length_map]; exact h
      have hd : ps.drop i = ps[i] :: ps.drop (i + 1) := List.drop_eq_getElem_cons h
      have hw : wrap64 ((i : Int) + 1) = ((i + 1 : Nat) : Int) := by unfold wrap64; omega
      have hsum : ((ps.drop i).map List.length).sum = ps[i].length + ((ps.drop (i + 1)).map List.length).sum := by rw [hd, List.map_cons, List.sum_cons]
      refine ev_if (by omega) (ev_if (by omega) (ev_if (by omega) ?_))
      rw [rdOf_at _ i hm, List.getElem_map, toList_ba, data_ba, hd, run, hw]
      by_cases hdot : ps[i] = [46]
      · rw [if_pos hdot]
        refine ev_if hdot ?_
        exact ih (i + 1) st (by omega) (by omega) h3 (by omega) (by omega)
      rw [if_neg hdot]
      refine ev_else hdot ?_
      by_cases hdd : ps[i] = [46, 46]
      · rw [if_pos hdd]
        refine ev_if hdd (ev_succ ?_)
        simp only [parts_Resolve.j3]
        by_cases hst : st = []
        · rw [if_pos hst]
          refine ev_if (by rw [hst]; rfl) (ev_val rfl)
        · rw [if_neg hst]
          have hl : 0 < st.length := List.length_pos_iff.2 hst
          refine ev_else (by rw [List.length_map]; simp; omega) (ev_if (by rw [toList_ba, data_ba]; exact hdd) ?_)
          have hw2 : wrap64 (((st.map ba).length : Int) - 1) = ((st.length - 1 : Nat) : Int) := by rw [List.length_map]; unfold wrap64; omega
          rw [hw2, hw]
          refine ev_if (by omega) (ev_if (by rw [List.length_map]; omega) ?_)
          rw [Int.toNat_natCast, ← List.map_take, ← List.dropLast_eq_take]
          have hs2 : (st.dropLast.map List.length).sum ≤ (st.map List.length).sum := by
            obtain ⟨x, y, rfl⟩ : ∃ x y, st = x ++ [y] := ⟨st.dropLast, st.getLast hst, (List.dropLast_concat_getLast hst).symm⟩
            rw [List.dropLast_concat, tot_app]
            omega
          exact ih (i + 1) st.dropLast (by omega) (by omega) (fun p hp => h3 p (List.dropLast_subset _ hp)) (by rw [List.length_dropLast]; omega) (by omega)
      · rw [if_neg hdd]
        refine ev_else hdd (ev_succ ?_)
        simp only [parts_Resolve.j3]
        refine ev_else (by simp) (ev_else (by rw [toList_ba, data_ba]; exact hdd) (ev_if (by rw [List.length_map]; omega) ?_))
        rw [hw, show st.map ba ++ [ba ps[i]] = (st ++ [ps[i]]).map ba by simp]
        refine ih (i + 1) (st ++ [ps[i]]) (by omega) (by omega) (fun p hp' => ?_) (by rw [List.length_append, List.length_singleton]; omega) (by rw [tot_app]; omega)
        rw [List.mem_append, List.mem_singleton] at hp'
        rcases hp' with hh | rfl
        · exact h3 p hh
        · exact hp _ (List.getElem_mem h)
    · refine ev_else (by rw [List.length_map]; omega) ?_
      rw [List.drop_eq_nil_of_le (by omega), run]
      have hj := join_len st
      exact end_ev st (by omega) h3 (by omega)
theorem pcsF_sum : ∀ (t cur : List UInt8), ((pcsF cur t).map List.length).sum ≤ cur.length + t.length
  | [], cur => by simp [pcsF]
  | b :: t, cur => by
    rw [pcsF]
    split
    · have := pcsF_sum t []
      simp only [List.map_cons, List.sum_cons, List.length_cons, List.length_nil] at this ⊢
      omega
    · have := pcsF_sum t (cur ++ [b])
      simp only [List.length_append, List.length_singleton, List.length_cons, List.length_nil] at this ⊢
      omega
theorem res_j1 (a : ByteArray) (h1 : 1 ≤ a.size) (hs : a.size ≤ 10000) : Ev (fun k => parts_Resolve.j1 k a) (bp (fin (run [] (pcs (a.data.toList.drop 1))))) := by
  refine ev_succ ?_
  simp only [parts_Resolve.j1]
  refine ev_if (by omega) (Ev.bind (ev_const (split_P (a.extract 1 a.size) (by rw [ByteArray.size_extract]; omega))) ?_)
  unfold P
  rw [ext1]
  have hl : (a.data.toList.drop 1).length ≤ 10000 := by rw [List.length_drop, data_length]; omega
  have hsum := pcsF_sum (a.data.toList.drop 1) []
  have hlen := (pcsF_length (a.data.toList.drop 1) []).1
  rw [List.length_nil, Nat.zero_add] at hsum
  have := res_l0 (pcs (a.data.toList.drop 1)) (by unfold pcs; omega) (fun p hp => by have := pcsF_le _ _ p hp; rw [List.length_nil] at this; omega) (pcs (a.data.toList.drop 1)).length 0 [] (by omega) (Nat.zero_le _) (by simp) (Nat.le_refl _) (by simp)
  rw [List.drop_zero] at this
  exact this
theorem mx_last (l : List UInt8) (c : UInt8) : mx 0 (lastI l c) = ((lastI l c).toNat : Int) := by
  unfold mx
  split <;> omega
theorem split_ev (s : ByteArray) (hs : s.size ≤ 1000000) : Ev (fun k => parts_split.f k s) (ba (dirL s.data.toList), ba (s.data.toList.drop ((lastI s.data.toList 47) + 1).toNat)) := by
  unfold parts_split.f strings_LastIndexByte.f
  have hr := lastTo_range s.data.toList 47 s.data.toList.length
  have hr' : -1 ≤ lastI s.data.toList 47 ∧ lastI s.data.toList 47 < (s.size : Int) := by
    have : lastI s.data.toList 47 = lastTo s.data.toList 47 s.data.toList.length := rfl
    rw [this]
    rw [data_length] at hr ⊢
    exact hr
  refine Ev.bind (Ev.bind (last_ev s hs 47) (ev_val rfl)) ?_
  rw [mx_last, show wrap64 (lastI s.data.toList 47 + 1) = lastI s.data.toList 47 + 1 by unfold wrap64; omega]
  refine ev_if (by omega) (ev_if (by omega) (ev_if (by omega) (ev_if (by omega) (ev_val ?_))))
  rw [ext_ba, ext_ba, Int.toNat_natCast, List.drop_zero, Nat.sub_zero]
  unfold dirL
  congr 2
  exact List.take_of_length_le (by rw [List.length_drop, data_length]; exact Nat.le_refl _)
theorem res_ev (a b : ByteArray) (hs : a.size + b.size ≤ 1000) : Ev (fun k => parts_Resolve.f k a b) (bp (resV a.data.toList b.data.toList)) := by
  have no : Ev (fun k => parts_Resolve.j0 k a b true) (bp ([], false)) := by
    refine ev_succ ?_
    simp only [parts_Resolve.j0]
    exact ev_if trivial (ev_val rfl)
  have yes : (¬ b.data.toList = []) → Ev (fun k => parts_Resolve.j0 k a b false) (bp (fin (run [] (pcs ((allL a.data.toList b.data.toList).drop 1))))) := by
    intro hb
    have hl : 0 < b.size := by rw [← data_length]; exact List.length_pos_iff.2 hb
    refine ev_succ ?_
    simp only [parts_Resolve.j0]
    refine ev_else (by simp) (ev_if (by omega) ?_)
    have hh := head_bt b hl
    unfold allL
    by_cases h47 : b.data.toList.head? = some 47
    · rw [if_pos h47]
      rw [decide_eq_true h47] at hh
      refine ev_if (by simpa using hh) ?_
      exact res_j1 b (by omega) (by omega)
    · rw [if_neg h47]
      rw [decide_eq_false h47] at hh
      refine ev_else (by simpa using hh) ?_
      refine Ev.bind (split_ev a (by omega)) ?_
      have hd : (dirL a.data.toList).length ≤ a.size := by unfold dirL; rw [List.length_take, data_length]; omega
      have e1 : ba (dirL a.data.toList) ++ (⟨#[47]⟩ : ByteArray) = ba (dirL a.data.toList ++ [47]) := ba_app _ _
      have e2 : ba (dirL a.data.toList ++ [47]) ++ b = ba ((dirL a.data.toList ++ [47]) ++ b.data.toList) := by
        conv => lhs; rw [← ba_data b]
        exact ba_app _ _
      simp only [e1, e2]
      have hz : (ba (dirL a.data.toList ++ [47])).size = (dirL a.data.toList).length + 1 := by rw [ba_size]; simp
      refine ev_if (by rw [ba_size]; omega) (ev_if (by rw [hz]; omega) ?_)
      have hz2 : (ba ((dirL a.data.toList ++ [47]) ++ b.data.toList)).size = (dirL a.data.toList).length + 1 + b.size := by rw [ba_size, List.length_append, List.length_append, data_length]; rfl
      have := res_j1 (ba ((dirL a.data.toList ++ [47]) ++ b.data.toList)) (by omega) (by omega)
      rw [data_ba] at this
      exact this
  have both : Ev (fun k => parts_Resolve.j0 k a b (b.toList == ([] : List UInt8))) (bp (if b.data.toList = [] then ([], false) else fin (run [] (pcs ((allL a.data.toList b.data.toList).drop 1))))) := by
    rw [toList_ba]
    by_cases hb : b.data.toList = []
    · rw [if_pos hb, hb]
      exact no
    · rw [if_neg hb, beq_eq_false_iff_ne.mpr hb]
      exact yes hb
  unfold parts_Resolve.f resV
  rw [toList_ba]
  by_cases ha : a.data.toList = []
  · refine ev_if ha ?_
    rw [if_neg (fun hh => hh.1 ha)]
    exact both
  · refine ev_else ha (Ev.bind (is_ev a (by omega)) ?_)
    cases hn : isN a.data.toList with
    | true =>
      rw [if_neg (fun hh => by simp at hh)]
      exact ev_if rfl both
    | false =>
      rw [if_pos ⟨ha, rfl⟩]
      exact ev_else (by simp) no
theorem known_ev : Ev (fun k => rubricatorlaw12_known.f k) true := Ev.of (fun k => rubricatorlaw12_known.mono k) (k := 60) (by decide +kernel)
end Go.Proofs.YtdooaaefldjinaaDoor.Pcs
