/- Pieces between strokes, bytes of a name, last places: what the program's and the document's functions compute. No conditions beside sizes. -/
import Derived.Test.YtdooaaefldjinaaDoorPAx5
import Derived.Test.YtdooaaefldjinaaDoorAid
import Derived.Lib.SplitLaws
namespace Go.Proofs.YtdooaaefldjinaaDoor.Pcs
open Go.RowKit Go.Proofs.YtdooaaefldjinaaDoor.PA Go.Proofs.YtdooaaefldjinaaDoorW.PrintWords Go.Proofs.YtdooaaefldjinaaDoorW.PrintLast Go.Proofs.YtdooaaefldjinaaDoorAid
set_option linter.unusedVariables false
set_option linter.unusedSimpArgs false

/-! ### pieces -/
def pcsF (cur : List UInt8) : List UInt8 → List (List UInt8)
  | [] => [cur]
  | b :: t => if b = 47 then cur :: pcsF [] t else pcsF (cur ++ [b]) t
def pcs (l : List UInt8) : List (List UInt8) := pcsF [] l
def hd (b : List UInt8) : List (List UInt8) → List (List UInt8)
  | [] => []
  | p :: r => (b ++ p) :: r
theorem pcsF_hd (b : List UInt8) : ∀ (t cur : List UInt8), pcsF (b ++ cur) t = hd b (pcsF cur t)
  | [], cur => rfl
  | c :: t, cur => by
    rw [pcsF, pcsF]
    split
    · rfl
    · rw [List.append_assoc, pcsF_hd b t]
theorem index_cons (b : UInt8) (t : List UInt8) : Lib.index (b :: t) [47] = if b = 47 then 0 else if Lib.index t [47] = -1 then -1 else Lib.index t [47] + 1 := by
  rw [Lib.index]
  by_cases h : b = 47
  · subst h; simp
  · have : (47 == b) = false := beq_eq_false_iff_ne.mpr (fun e => h e.symm)
    have h2 : ¬ (47 : UInt8) = b := fun e => h e.symm
    simp [h, h2]
theorem index_ge (t : List UInt8) : Lib.index t [47] = -1 ∨ 0 ≤ Lib.index t [47] := by
  rw [Lib.index_one]
  have := Lib.indexByte_ge t 47
  omega
theorem splitK_stroke (k : Nat) (t : List UInt8) : Lib.splitK [47] 0 (k + 1) (47 :: t) = [] :: Lib.splitK [47] 0 k t := by
  rw [Lib.splitK, index_cons, if_pos rfl]
  simp
theorem splitK_byte (b : UInt8) (h : b ≠ 47) (t : List UInt8) : ∀ k, Lib.splitK [47] 0 k (b :: t) = hd [b] (Lib.splitK [47] 0 k t)
  | 0 => rfl
  | k + 1 => by
    rw [Lib.splitK, Lib.splitK, index_cons, if_neg h]
    by_cases h1 : Lib.index t [47] = -1
    · rw [if_pos h1, h1]
      rfl
    · rw [if_neg h1]
      have h0 : 0 ≤ Lib.index t [47] := (index_ge t).resolve_left h1
      obtain ⟨i, hi⟩ := Int.eq_ofNat_of_zero_le h0
      rw [hi]
      have e1 : (((i : Int) + 1 == -1) : Bool) = false := beq_eq_false_iff_ne.mpr (by omega)
      have e2 : (((i : Int) == -1) : Bool) = false := beq_eq_false_iff_ne.mpr (by omega)
      rw [e1, e2]
      simp only [Bool.false_eq_true, if_false, hd]
      have e3 : ((i : Int) + 1).toNat = i + 1 := by omega
      rw [e3, Int.toNat_natCast]
      simp
theorem splitK_pcs : ∀ l : List UInt8, Lib.splitK [47] 0 (l.count 47) l = pcs l
  | [] => rfl
  | b :: t => by
    have ih := splitK_pcs t
    unfold pcs at ih ⊢
    by_cases h : b = 47
    · subst h
      rw [List.count_cons_self, splitK_stroke, ih, pcsF, if_pos rfl]
    · rw [List.count_cons_of_ne h, splitK_byte b h, ih, pcsF, if_neg h, List.nil_append]
      have := pcsF_hd [b] t []
      rw [List.append_nil] at this
      exact this.symm
def ba (l : List UInt8) : ByteArray := ⟨l.toArray⟩
theorem ba_data (s : ByteArray) : ba s.data.toList = s := by
  unfold ba
  cases s
  simp
theorem data_ba (l : List UInt8) : (ba l).data.toList = l := rfl
theorem toList_ba (s : ByteArray) : s.toList = s.data.toList := Lib.toList_data s
theorem ba_size (l : List UInt8) : (ba l).size = l.length := by rw [← data_length]; rfl
def P (s : ByteArray) : List ByteArray := (pcs s.data.toList).map ba
theorem split_P (s : ByteArray) (hs : s.size < 4294967281) : strings_Split.f s (⟨#[47]⟩ : ByteArray) = some (P s) := by
  unfold strings_Split.f
  rw [if_pos ⟨rfl, hs⟩]
  congr 1
  have h1 := Lib.splitB_data (⟨#[47]⟩ : ByteArray) 0 (Lib.countB s ⟨#[47]⟩) s
  have h2 : Lib.countB s (⟨#[47]⟩ : ByteArray) = s.data.toList.count 47 := Lib.count_one 47 s.data.toList
  rw [h2] at h1 ⊢
  have h3 : Lib.splitK (⟨#[47]⟩ : ByteArray).data.toList 0 (s.data.toList.count 47) s.data.toList = pcs s.data.toList := splitK_pcs _
  rw [h3] at h1
  unfold P
  rw [← h1, List.map_map]
  conv => lhs; rw [← List.map_id (Lib.splitB (⟨#[47]⟩ : ByteArray) 0 (s.data.toList.count 47) s)]
  exact List.map_congr_left fun x _ => (ba_data x).symm
theorem pcsF_length : ∀ (t cur : List UInt8), (pcsF cur t).length ≤ t.length + 1 ∧ 1 ≤ (pcsF cur t).length
  | [], cur => ⟨Nat.le_refl _, Nat.le_refl _⟩
  | b :: t, cur => by
    rw [pcsF]
    split
    · have := pcsF_length t []
      rw [List.length_cons, List.length_cons]
      omega
    · have := pcsF_length t (cur ++ [b])
      rw [List.length_cons]
      omega
theorem ext_ba (x : ByteArray) (a b : Nat) : x.extract a b = ba ((x.data.toList.drop a).take (b - a)) := by
  apply ByteArray.ext
  apply Array.toList_inj.1
  rw [data_ba, ByteArray.data_extract, Array.toList_extract]
theorem bt_list (s : ByteArray) (l : List UInt8) (hs : s.data.toList = l) (i : Nat) (c : UInt8) (h : l[i]? = some c) : bt s (i : Int) = (c.toNat : Int) := by
  subst hs
  have hi : i < s.data.toList.length := by
    rcases Nat.lt_or_ge i s.data.toList.length with h1 | h1
    · exact h1
    · rw [List.getElem?_eq_none h1] at h
      cases h
  have hs : i < s.size := by rw [← data_length]; exact hi
  rw [List.getElem?_eq_getElem hi] at h
  obtain rfl := Option.some.inj h
  unfold bt
  rw [dif_pos (by simpa using hs)]
  rfl
theorem u8_47 (b : UInt8) : ((b.toNat : Int) = 47) = (b = 47) := by
  apply propext
  constructor
  · intro h
    exact UInt8.toNat_inj.1 (by show b.toNat = 47; omega)
  · rintro rfl
    rfl
theorem cut_l0 (l : List UInt8) (hl : l.length ≤ 1000000) : ∀ (d i f : Nat) (acc : List ByteArray), l.length ≤ i + d → i ≤ l.length → f ≤ i → acc.length ≤ i →
    Ev (fun k => rubricatorref12_cut.l0 k (ba (l ++ [47])) acc (f : Int) (i : Int)) (acc ++ (pcsF ((l.drop f).take (i - f)) (l.drop i)).map ba) := by
  have hz : (ba (l ++ [47])).size = l.length + 1 := by rw [ba_size]; simp
  have step : ∀ (d i f : Nat) (acc : List ByteArray), i ≤ l.length → f ≤ i → acc.length ≤ i → (h47 : (l ++ [47])[i]? = some 47) →
      ∀ r, Ev (fun k => rubricatorref12_cut.l0 k (ba (l ++ [47])) (acc ++ [ba ((l.drop f).take (i - f))]) ((i + 1 : Nat) : Int) ((i + 1 : Nat) : Int)) r → Ev (fun k => rubricatorref12_cut.l0 k (ba (l ++ [47])) acc (f : Int) (i : Int)) r := by
    intro d i f acc hi hf ha h47 r hr
    refine ev_succ ?_
    simp only [rubricatorref12_cut.l0]
    refine ev_if (by rw [hz]; omega) (ev_if (by omega) (ev_if ?_ (ev_if (by omega) (ev_if (by omega) (ev_if (by rw [hz]; omega) (ev_if (by omega) ?_))))))
    · rw [bt_list _ _ (data_ba _) i 47 h47]
      rfl
    · rw [show wrap64 ((i : Int) + 1) = ((i + 1 : Nat) : Int) by unfold wrap64; omega, Int.toNat_natCast, Int.toNat_natCast, ext_ba, data_ba]
      have e : ((l ++ [47]).drop f).take (i - f) = (l.drop f).take (i - f) := by
        rw [List.drop_append_of_le_length (by omega), List.take_append_of_le_length (by simp; omega)]
      rw [e]
      exact hr
  intro d
  induction d with
  | zero =>
    intro i f acc h1 h2 hf ha
    obtain rfl : i = l.length := by omega
    refine step 0 _ f acc (Nat.le_refl _) hf ha (by simp) _ (ev_succ ?_)
    simp only [rubricatorref12_cut.l0]
    refine ev_else (by rw [hz]; omega) (ev_val ?_)
    rw [List.drop_length, pcsF]
    rfl
  | succ d ih =>
    intro i f acc h1 h2 hf ha
    by_cases hi : i = l.length
    · subst hi
      refine step 0 _ f acc (Nat.le_refl _) hf ha (by simp) _ (ev_succ ?_)
      simp only [rubricatorref12_cut.l0]
      refine ev_else (by rw [hz]; omega) (ev_val ?_)
      rw [List.drop_length, pcsF]
      rfl
    · have hil : i < l.length := by omega
      have hd : l.drop i = l[i] :: l.drop (i + 1) := List.drop_eq_getElem_cons hil
      by_cases h47 : l[i] = 47
      · have := ih (i + 1) (i + 1) (acc ++ [ba ((l.drop f).take (i - f))]) (by omega) (by omega) (Nat.le_refl _) (by rw [List.length_append, List.length_singleton]; omega)
        have h := step 0 i f acc (by omega) hf ha (by rw [List.getElem?_append_left hil, List.getElem?_eq_getElem hil, h47]) _ this
        rw [Nat.sub_self, List.take_zero, List.append_assoc, List.singleton_append] at h
        rw [hd, pcsF, if_pos h47, List.map_cons]
        exact h
      · have hr := ih (i + 1) f acc (by omega) (by omega) (by omega) (by omega)
        refine ev_succ ?_
        simp only [rubricatorref12_cut.l0]
        refine ev_if (by rw [hz]; omega) (ev_if (by omega) (ev_else ?_ ?_))
        · rw [bt_list _ _ (data_ba _) i l[i] (by rw [List.getElem?_append_left hil, List.getElem?_eq_getElem hil]), u8_47]
          exact h47
        · rw [show wrap64 ((i : Int) + 1) = ((i + 1 : Nat) : Int) by unfold wrap64; omega, hd, pcsF, if_neg h47]
          have e : (l.drop f).take (i - f) ++ [l[i]] = (l.drop f).take (i + 1 - f) := by
            rw [show i + 1 - f = (i - f) + 1 by omega, List.take_succ_eq_append_getElem (by simp; omega)]
            simp
            congr 1
            omega
          rw [e]
          exact hr
theorem cut_ev (s : ByteArray) (hs : s.size ≤ 1000000) : Ev (fun k => rubricatorref12_cut.f k s) (P s) := by
  unfold rubricatorref12_cut.f
  refine ev_if (by omega) ?_
  have h := cut_l0 s.data.toList (by rw [data_length]; exact hs) s.size 0 0 [] (by rw [data_length]; omega) (Nat.zero_le _) (Nat.le_refl _) (by simp)
  rw [List.nil_append, List.drop_zero, Nat.sub_self, List.take_zero] at h
  have e : s ++ (⟨#[47]⟩ : ByteArray) = ba (s.data.toList ++ [47]) := by
    apply ByteArray.ext
    apply Array.toList_inj.1
    rw [data_ba]
    simp
  rw [e]
  exact h

/-! ### bytes -/
def mayB (c : Int) : Bool := (parts_isByte.f c).getD false
theorem may_all : ∀ c : Fin 256, parts_isByte.f ((c.val : Nat) : Int) = some (mayB ((c.val : Nat) : Int)) ∧ rubricatorref12_may.f 25 ((c.val : Nat) : Int) = some (mayB ((c.val : Nat) : Int)) := by decide +kernel
theorem may_at (s : ByteArray) (i : Int) : parts_isByte.f (bt s i) = some (mayB (bt s i)) ∧ Ev (fun k => rubricatorref12_may.f k (bt s i)) (mayB (bt s i)) := by
  have hr := bt_range s i
  have h := may_all ⟨(bt s i).toNat, by omega⟩
  simp only [Int.toNat_of_nonneg hr.1] at h
  exact ⟨h.1, Ev.of (rubricatorref12_may.mono _) h.2⟩

/-! ### names -/
def gd (p : List UInt8) : Bool := decide (p ≠ [] ∧ p.getLast? ≠ some 46)
def isN (l : List UInt8) : Bool := decide (2 ≤ l.length ∧ l.length ≤ 200 ∧ l.head? = some 47) && ((pcs (l.drop 1)).all gd && l.all (fun c => mayB (c.toNat : Int)))
theorem pcsF_le : ∀ (t cur p : List UInt8), p ∈ pcsF cur t → p.length ≤ cur.length + t.length
  | [], cur, p, h => by
    rw [pcsF, List.mem_singleton] at h
    subst h
    simp
  | b :: t, cur, p, h => by
    rw [pcsF] at h
    split at h
    · rw [List.mem_cons] at h
      rcases h with rfl | h
      · omega
      · have := pcsF_le t [] p h
        rw [List.length_nil] at this
        rw [List.length_cons]
        omega
    · have := pcsF_le t (cur ++ [b]) p h
      rw [List.length_append, List.length_singleton] at this
      rw [List.length_cons]
      omega
theorem rdOf_at (L : List ByteArray) (i : Nat) (h : i < L.length) : rdOf ByteArray.empty L (i : Int) = L[i] := by
  unfold rdOf
  rw [Int.toNat_natCast, List.getD_eq_getElem?_getD, List.getElem?_eq_getElem h]
  rfl
/-- One piece's check, as both walk it. -/
theorem piece_ev (p : ByteArray) (hp : p.size ≤ 1000000) {g : Nat → Option Bool} {r : Bool} (h : gd p.data.toList = true → Ev g r) :
    Ev (fun k => if p.toList = ([] : List UInt8) then (some false) else (if 0 ≤ (wrap64 ((p.size : Int) - 1)) then (if (wrap64 ((p.size : Int) - 1)) < (p.size : Int) then (if (bt p (wrap64 ((p.size : Int) - 1))) = 46 then (some false) else (g k)) else (none)) else (none))) (gd p.data.toList && r) := by
  rw [toList_ba]
  by_cases h0 : p.data.toList = []
  · refine ev_if h0 (ev_val ?_)
    rw [h0]
    rfl
  refine ev_else h0 ?_
  have hl : 0 < p.size := by
    rw [← data_length]
    exact List.length_pos_iff.2 h0
  have hw : wrap64 ((p.size : Int) - 1) = ((p.size - 1 : Nat) : Int) := by unfold wrap64; omega
  rw [hw]
  refine ev_if (by omega) (ev_if (by omega) ?_)
  have hla : p.data.toList[p.size - 1]? = p.data.toList.getLast? := by
    rw [List.getLast?_eq_getElem?, data_length]
  obtain ⟨c, hc⟩ : ∃ c, p.data.toList.getLast? = some c := by
    rw [List.getLast?_eq_some_getLast h0]
    exact ⟨_, rfl⟩
  rw [hc] at hla
  rw [bt_list p _ rfl (p.size - 1) c hla]
  by_cases h46 : c = 46
  · subst h46
    refine ev_if rfl (ev_val ?_)
    have : gd p.data.toList = false := by
      unfold gd
      rw [decide_eq_false]
      exact fun hh => hh.2 hc
    rw [this]
    rfl
  · have hg : gd p.data.toList = true := by
      unfold gd
      rw [decide_eq_true]
      exact ⟨h0, fun e => h46 (by rw [hc] at e; exact Option.some.inj e)⟩
    refine ev_else ?_ ?_
    · intro e
      exact h46 (UInt8.toNat_inj.1 (by show c.toNat = 46; omega))
    · rw [hg, Bool.true_and]
      exact h hg
theorem bytes_l1 (s : ByteArray) (hs : s.size ≤ 1000000) : ∀ (d i : Nat), s.size ≤ i + d → i ≤ s.size → Ev (fun k => parts_Is.l1 k s (s.size : Int) (i : Int)) ((s.data.toList.drop i).all (fun c => mayB (c.toNat : Int))) := by
  intro d
  induction d with
  | zero =>
    intro i h1 h2
    refine ev_succ ?_
    simp only [parts_Is.l1]
    refine ev_else (by omega) (ev_val ?_)
    rw [List.drop_eq_nil_of_le (by rw [data_length]; omega)]
    rfl
  | succ d ih =>
    intro i h1 h2
    refine ev_succ ?_
    simp only [parts_Is.l1]
    by_cases h : i < s.size
    · have hi : i < s.data.toList.length := by rw [data_length]; exact h
      rw [List.drop_eq_getElem_cons hi, List.all_cons, ← bt_list s _ rfl i _ (List.getElem?_eq_getElem hi)]
      refine ev_if (by omega) (ev_if (by omega) (ev_if (by omega) ?_))
      refine Ev.bind (ev_const (may_at s i).1) ?_
      cases hm : mayB (bt s i) with
      | true =>
        refine ev_if rfl ?_
        rw [show wrap64 ((i : Int) + 1) = ((i + 1 : Nat) : Int) by unfold wrap64; omega, Bool.true_and]
        exact ih (i + 1) (by omega) (by omega)
      | false => exact ev_else (by simp) (ev_val rfl)
    · refine ev_else (by omega) (ev_val ?_)
      rw [List.drop_eq_nil_of_le (by rw [data_length]; omega)]
      rfl
theorem pieces_l0 (s : ByteArray) (hs : s.size ≤ 1000000) (L : List ByteArray) (hL : L.length ≤ 1000001) (hp : ∀ p ∈ L, p.size ≤ 1000000) : ∀ (d i : Nat), L.length ≤ i + d → i ≤ L.length → Ev (fun k => parts_Is.l0 k s L (L.length : Int) (i : Int)) ((L.drop i).all (fun p => gd p.data.toList) && s.data.toList.all (fun c => mayB (c.toNat : Int))) := by
  have fin : Ev (fun k => parts_Is.l1 k s (s.size : Int) 0) (s.data.toList.all (fun c => mayB (c.toNat : Int))) := by
    have := bytes_l1 s hs s.size 0 (by omega) (by omega)
    rw [List.drop_zero] at this
    exact this
  intro d
  induction d with
  | zero =>
    intro i h1 h2
    refine ev_succ ?_
    simp only [parts_Is.l0]
    refine ev_else (by omega) ?_
    rw [List.drop_eq_nil_of_le (by omega), List.all_nil, Bool.true_and]
    exact fin
  | succ d ih =>
    intro i h1 h2
    refine ev_succ ?_
    simp only [parts_Is.l0]
    by_cases h : i < L.length
    · refine ev_if (by omega) (ev_if (by omega) (ev_if (by omega) ?_))
      rw [rdOf_at L i h, List.drop_eq_getElem_cons h, List.all_cons, Bool.and_assoc]
      refine piece_ev L[i] (hp _ (List.getElem_mem h)) (fun _ => ?_)
      rw [show wrap64 ((i : Int) + 1) = ((i + 1 : Nat) : Int) by unfold wrap64; omega]
      exact ih (i + 1) (by omega) (by omega)
    · refine ev_else (by omega) ?_
      rw [List.drop_eq_nil_of_le (by omega), List.all_nil, Bool.true_and]
      exact fin
theorem P_facts (s : ByteArray) : (P s).length ≤ s.size + 1 ∧ (∀ p ∈ P s, p.size ≤ s.size) ∧ (P s).all (fun p => gd p.data.toList) = (pcs s.data.toList).all gd := by
  refine ⟨?_, ?_, ?_⟩
  · unfold P pcs
    rw [List.length_map, ← data_length]
    exact (pcsF_length _ _).1
  · intro p hp
    unfold P at hp
    rw [List.mem_map] at hp
    obtain ⟨q, hq, rfl⟩ := hp
    have := pcsF_le _ _ q hq
    rw [ba_size, ← data_length]
    rw [List.length_nil, Nat.zero_add] at this
    exact this
  · unfold P
    rw [List.all_map]
    rfl
theorem ext1 (s : ByteArray) : (s.extract 1 s.size).data.toList = s.data.toList.drop 1 := by
  rw [ByteArray.data_extract, Array.toList_extract]
  simp
  exact List.take_of_length_le (by rw [List.length_tail, data_length]; exact Nat.le_refl _)
theorem head_bt (s : ByteArray) (h : 0 < s.size) : ((bt s 0) != 47) = !decide (s.data.toList.head? = some 47) := by
  have hi : 0 < s.data.toList.length := by rw [data_length]; exact h
  obtain ⟨c, t, hct⟩ : ∃ c t, s.data.toList = c :: t := by
    cases hh : s.data.toList with
    | nil => rw [hh] at hi; simp at hi
    | cons c t => exact ⟨c, t, rfl⟩
  have hb : bt s ((0 : Nat) : Int) = (c.toNat : Int) := bt_list s _ hct 0 c rfl
  rw [show bt s 0 = _ from hb, hct, List.head?_cons]
  by_cases e : c = 47
  · subst e; rfl
  · have e2 : ¬ (c.toNat : Int) = 47 := fun hh => e (UInt8.toNat_inj.1 (by show c.toNat = 47; omega))
    rw [bne_iff_ne.mpr e2]
    simp [e]
theorem is_ev (s : ByteArray) (hs : s.size ≤ 1000000) : Ev (fun k => parts_Is.f k s) (isN s.data.toList) := by
  have no : Ev (fun k => parts_Is.j0 k s true) false := by
    refine ev_succ ?_
    simp only [parts_Is.j0]
    exact ev_if trivial (ev_val rfl)
  unfold parts_Is.f isN
  rw [data_length]
  by_cases h2 : (s.size : Int) < 2
  · refine ev_if h2 ?_
    rw [decide_eq_false (by omega)]
    exact no
  refine ev_else h2 ?_
  by_cases h3 : (s.size : Int) > 200
  · refine ev_if h3 ?_
    rw [decide_eq_false (by omega)]
    exact no
  refine ev_else h3 (ev_if (by omega) ?_)
  rw [head_bt s (by omega)]
  by_cases h47 : s.data.toList.head? = some 47
  · rw [decide_eq_true h47, decide_eq_true (show 2 ≤ s.size ∧ s.size ≤ 200 ∧ s.data.toList.head? = some 47 from ⟨by omega, by omega, h47⟩)]
    refine ev_succ ?_
    simp only [parts_Is.j0]
    refine ev_else (by simp) (ev_if (by omega) ?_)
    refine Ev.bind (ev_const (split_P (s.extract 1 s.size) (by rw [ByteArray.size_extract]; omega))) ?_
    obtain ⟨f1, f2, f3⟩ := P_facts (s.extract 1 s.size)
    have hsz : (s.extract 1 s.size).size ≤ s.size := by rw [ByteArray.size_extract]; omega
    have := pieces_l0 s hs (P (s.extract 1 s.size)) (by omega) (fun p hp => by have := f2 p hp; omega) (P (s.extract 1 s.size)).length 0 (by omega) (Nat.zero_le _)
    rw [List.drop_zero, f3, ext1] at this
    rw [Bool.true_and]
    exact this
  · rw [decide_eq_false h47, decide_eq_false (show ¬ (2 ≤ s.size ∧ s.size ≤ 200 ∧ s.data.toList.head? = some 47) from fun hh => h47 hh.2.2)]
    exact no
theorem ref_l1 (L : List ByteArray) (hL : L.length ≤ 1000001) (hp : ∀ p ∈ L, p.size ≤ 1000000) : ∀ (d i : Nat), L.length ≤ i + d → i ≤ L.length → Ev (fun k => rubricatorref12_Is.l1 k L (i : Int)) ((L.drop i).all (fun p => gd p.data.toList)) := by
  intro d
  induction d with
  | zero =>
    intro i h1 h2
    refine ev_succ ?_
    simp only [rubricatorref12_Is.l1]
    refine ev_else (by omega) (ev_val ?_)
    rw [List.drop_eq_nil_of_le (by omega)]
    rfl
  | succ d ih =>
    intro i h1 h2
    refine ev_succ ?_
    simp only [rubricatorref12_Is.l1]
    by_cases h : i < L.length
    · refine ev_if (by omega) (ev_if (by omega) ?_)
      rw [rdOf_at L i h, List.drop_eq_getElem_cons h, List.all_cons]
      refine piece_ev L[i] (hp _ (List.getElem_mem h)) (fun _ => ?_)
      rw [show wrap64 ((i : Int) + 1) = ((i + 1 : Nat) : Int) by unfold wrap64; omega]
      exact ih (i + 1) (by omega) (by omega)
    · refine ev_else (by omega) (ev_val ?_)
      rw [List.drop_eq_nil_of_le (by omega)]
      rfl
theorem ref_l0 (s : ByteArray) (hs : s.size ≤ 1000000) (h1s : 1 ≤ s.size) : ∀ (d i : Nat), s.size ≤ i + d → i ≤ s.size → Ev (fun k => rubricatorref12_Is.l0 k s (i : Int)) ((s.data.toList.drop i).all (fun c => mayB (c.toNat : Int)) && (pcs (s.data.toList.drop 1)).all gd) := by
  have fin : Ev (fun k => if 1 ≤ (s.size : Int) then ((rubricatorref12_cut.f k (s.extract 1 s.size)).bind fun t135 => (rubricatorref12_Is.l1 k t135 0)) else (none)) ((pcs (s.data.toList.drop 1)).all gd) := by
    have hsz : (s.extract 1 s.size).size ≤ s.size := by rw [ByteArray.size_extract]; omega
    refine ev_if (by omega) (Ev.bind (cut_ev (s.extract 1 s.size) (by omega)) ?_)
    obtain ⟨f1, f2, f3⟩ := P_facts (s.extract 1 s.size)
    have := ref_l1 (P (s.extract 1 s.size)) (by omega) (fun p hp => by have := f2 p hp; omega) (P (s.extract 1 s.size)).length 0 (by omega) (Nat.zero_le _)
    rw [List.drop_zero, f3, ext1] at this
    exact this
  intro d
  induction d with
  | zero =>
    intro i h1 h2
    refine ev_succ ?_
    simp only [rubricatorref12_Is.l0]
    refine ev_else (by omega) ?_
    rw [List.drop_eq_nil_of_le (by rw [data_length]; omega), List.all_nil, Bool.true_and]
    exact fin
  | succ d ih =>
    intro i h1 h2
    refine ev_succ ?_
    simp only [rubricatorref12_Is.l0]
    by_cases h : i < s.size
    · have hi : i < s.data.toList.length := by rw [data_length]; exact h
      rw [List.drop_eq_getElem_cons hi, List.all_cons, ← bt_list s _ rfl i _ (List.getElem?_eq_getElem hi)]
      refine ev_if (by omega) (ev_if (by omega) ?_)
      refine Ev.bind (may_at s i).2 ?_
      cases hm : mayB (bt s i) with
      | true =>
        refine ev_if rfl ?_
        rw [show wrap64 ((i : Int) + 1) = ((i + 1 : Nat) : Int) by unfold wrap64; omega, Bool.true_and]
        exact ih (i + 1) (by omega) (by omega)
      | false => exact ev_else (by simp) (ev_val rfl)
    · refine ev_else (by omega) ?_
      rw [List.drop_eq_nil_of_le (by rw [data_length]; omega), List.all_nil, Bool.true_and]
      exact fin
theorem ref_is_ev (s : ByteArray) (hs : s.size ≤ 1000000) : Ev (fun k => rubricatorref12_Is.f k s) (isN s.data.toList) := by
  have no : Ev (fun k => rubricatorref12_Is.j0 k s true) false := by
    refine ev_succ ?_
    simp only [rubricatorref12_Is.j0]
    exact ev_if trivial (ev_val rfl)
  unfold rubricatorref12_Is.f isN
  rw [data_length]
  by_cases h2 : (s.size : Int) < 2
  · refine ev_if h2 ?_
    rw [decide_eq_false (by omega)]
    exact no
  refine ev_else h2 ?_
  by_cases h3 : (s.size : Int) > 200
  · refine ev_if h3 ?_
    rw [decide_eq_false (by omega)]
    exact no
  refine ev_else h3 (ev_if (by omega) ?_)
  rw [head_bt s (by omega)]
  by_cases h47 : s.data.toList.head? = some 47
  · rw [decide_eq_true h47, decide_eq_true (show 2 ≤ s.size ∧ s.size ≤ 200 ∧ s.data.toList.head? = some 47 from ⟨by omega, by omega, h47⟩)]
    refine ev_succ ?_
    simp only [rubricatorref12_Is.j0]
    refine ev_else (by simp) ?_
    have := ref_l0 s hs (by omega) s.size 0 (by omega) (Nat.zero_le _)
    rw [List.drop_zero, Bool.and_comm] at this
    rw [Bool.true_and]
    exact this
  · rw [decide_eq_false h47, decide_eq_false (show ¬ (2 ≤ s.size ∧ s.size ≤ 200 ∧ s.data.toList.head? = some 47) from fun hh => h47 hh.2.2)]
    exact no

/-! ### the last place of a byte -/
def lastTo (l : List UInt8) (c : UInt8) : Nat → Int
  | 0 => -1
  | n + 1 => if l[n]? = some c then (n : Int) else lastTo l c n
theorem lastTo_range (l : List UInt8) (c : UInt8) : ∀ n, -1 ≤ lastTo l c n ∧ lastTo l c n < n
  | 0 => by rw [lastTo]; omega
  | n + 1 => by
    have := lastTo_range l c n
    rw [lastTo]
    split <;> omega
theorem last_l0 (s : ByteArray) (hs : s.size ≤ 1000000) (c : UInt8) : ∀ (n : Nat), n ≤ s.size → Ev (fun k => bytealg_LastIndexByteString.l0 k s (c.toNat : Int) ((n : Int) - 1)) (lastTo s.data.toList c n)
  | 0, h => by
    refine ev_succ ?_
    simp only [bytealg_LastIndexByteString.l0]
    exact ev_else (by omega) (ev_val rfl)
  | n + 1, h => by
    have ih := last_l0 s hs c n (by omega)
    refine ev_succ ?_
    simp only [bytealg_LastIndexByteString.l0]
    have e : (((n + 1 : Nat) : Int) - 1) = (n : Int) := by omega
    have hi : n < s.data.toList.length := by rw [data_length]; omega
    rw [e, lastTo, bt_list s _ rfl n _ (List.getElem?_eq_getElem hi), List.getElem?_eq_getElem hi]
    refine ev_if (by omega) (ev_if (by omega) (ev_if (by omega) ?_))
    by_cases hc : s.data.toList[n] = c
    · rw [hc, if_pos rfl]
      exact ev_if rfl (ev_val rfl)
    · rw [if_neg (fun hh => hc (Option.some.inj hh))]
      refine ev_else (fun hh => hc (UInt8.toNat_inj.1 (by omega))) ?_
      rw [show wrap64 ((n : Int) - 1) = (n : Int) - 1 by unfold wrap64; omega]
      exact ih
def lastI (l : List UInt8) (c : UInt8) : Int := lastTo l c l.length
theorem last_ev (s : ByteArray) (hs : s.size ≤ 1000000) (c : UInt8) : Ev (fun k => bytealg_LastIndexByteString.f k s (c.toNat : Int)) (lastI s.data.toList c) := by
  unfold bytealg_LastIndexByteString.f lastI
  rw [show wrap64 ((s.size : Int) - 1) = (s.size : Int) - 1 by unfold wrap64; omega, data_length]
  exact last_l0 s hs c s.size (Nat.le_refl _)
end Go.Proofs.YtdooaaefldjinaaDoor.Pcs
