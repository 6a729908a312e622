/- A part's relationships' part lies in a folder of its own beside it; of two parts they are two. No conditions. -/
import Derived.Test.YtdooaaefldjinaaDoorRel
namespace Go.Proofs.YtdooaaefldjinaaDoor.Pure
open Go.RowKit Go.Proofs.YtdooaaefldjinaaDoor.PA Go.Proofs.YtdooaaefldjinaaDoorW.PrintWords Go.Proofs.YtdooaaefldjinaaDoorW.PrintLast Go.Proofs.YtdooaaefldjinaaDoorAid Go.Proofs.YtdooaaefldjinaaDoor.Pcs
set_option linter.unusedVariables false
theorem kn3 (g : Nat → Option Bool) (h : ∀ k, g k = (rubricatorlaw12_known.f k).bind fun t => some t) : Ev g true := Ev.congr h (Ev.bind known_ev (ev_val rfl))
/-- Where the last one stands: none behind it. -/
theorem lastTo_spec (l : List UInt8) (c : UInt8) : ∀ n, (∀ i : Nat, lastTo l c n = (i : Int) → l[i]? = some c) ∧ ∀ j : Nat, lastTo l c n < (j : Int) → j < n → l[j]? ≠ some c
  | 0 => ⟨fun i h => by rw [lastTo] at h; omega, fun j _ h => by omega⟩
  | n + 1 => by
    obtain ⟨h1, h2⟩ := lastTo_spec l c n
    rw [lastTo]
    split
    · rename_i hc
      refine ⟨fun i h => by obtain rfl : n = i := by omega
                            exact hc, fun j hj hn => by omega⟩
    · rename_i hc
      refine ⟨h1, fun j hj hn => ?_⟩
      by_cases e : j = n
      · subst e
        exact hc
      · exact h2 j hj (by omega)
def dirP (l : List UInt8) : Prop := l = dirL l ++ 47 :: restL l ∧ 47 ∉ restL l
theorem parts_of (l : List UInt8) (h : l.head? = some 47) : dirP l := by
  obtain ⟨s1, s2⟩ := lastTo_spec l 47 l.length
  have hr := lastTo_range l 47 l.length
  have h0 : l[0]? = some 47 := by rw [← List.head?_eq_getElem?]; exact h
  have hl : 0 < l.length := by
    cases l with
    | nil => simp at h
    | cons x t => simp
  have hlast : lastI l 47 = lastTo l 47 l.length := rfl
  rw [← hlast] at s1 s2 hr
  have hn : ¬ lastI l 47 < 0 := fun hlt => s2 0 (by omega) hl h0
  obtain ⟨i, hi⟩ := Int.eq_ofNat_of_zero_le (show 0 ≤ lastI l 47 by omega)
  have hii := s1 i hi
  have hil : i < l.length := by omega
  unfold dirP dirL restL
  rw [hi, Int.toNat_natCast, show ((i : Int) + 1).toNat = i + 1 by omega]
  refine ⟨?_, ?_⟩
  · have hd := List.drop_eq_getElem_cons hil
    rw [List.getElem?_eq_getElem hil] at hii
    rw [Option.some.inj hii] at hd
    rw [← hd, List.take_append_drop]
  · intro hm
    obtain ⟨j, hj, he⟩ := List.mem_iff_getElem.1 hm
    rw [List.getElem_drop] at he
    rw [List.length_drop] at hj
    refine s2 (i + 1 + j) (by omega) (by omega) ?_
    rw [List.getElem?_eq_getElem (by omega), he]
theorem split_last {x y x' y' : List UInt8} (hy : 47 ∉ y) (hy' : 47 ∉ y') (h : x ++ 47 :: y = x' ++ 47 :: y') : x = x' ∧ y = y' := by
  rcases List.append_eq_append_iff.1 h with ⟨a, h1, h2⟩ | ⟨a, h1, h2⟩
  · cases a with
    | nil =>
      rw [List.append_nil] at h1
      rw [List.nil_append] at h2
      exact ⟨h1.symm, (List.cons.inj h2).2⟩
    | cons c a =>
      rw [List.cons_append] at h2
      have h3 := (List.cons.inj h2).2
      exact absurd (by rw [h3]; simp) hy
  · cases a with
    | nil =>
      rw [List.append_nil] at h1
      rw [List.nil_append] at h2
      exact ⟨h1, (List.cons.inj h2).2.symm⟩
    | cons c a =>
      rw [List.cons_append] at h2
      have h3 := (List.cons.inj h2).2
      exact absurd (by rw [h3]; simp) hy'
theorem rels_inj {a b : List UInt8} (ha : a.head? = some 47) (hb : b.head? = some 47) (h : relsL a = relsL b) : a = b := by
  obtain ⟨e1, n1⟩ := parts_of a ha
  obtain ⟨e2, n2⟩ := parts_of b hb
  unfold relsL at h
  have h1 := List.append_cancel_right h
  have h2 : (dirL a ++ [47, 95, 114, 101, 108, 115]) ++ 47 :: restL a = (dirL b ++ [47, 95, 114, 101, 108, 115]) ++ 47 :: restL b := by
    have e : ∀ x r : List UInt8, (x ++ [47, 95, 114, 101, 108, 115, 47]) ++ r = (x ++ [47, 95, 114, 101, 108, 115]) ++ 47 :: r := by intro x r; simp
    rw [e, e] at h1
    exact h1
  obtain ⟨h3, h4⟩ := split_last n1 n2 h2
  have h5 := List.append_cancel_right h3
  rw [e1, e2, h5, h4]
theorem rels_len {a : List UInt8} (ha : a.head? = some 47) : (relsL a).length = a.length + 11 := by
  obtain ⟨e1, _⟩ := parts_of a ha
  have h := congrArg List.length e1
  rw [List.length_append, List.length_cons] at h
  unfold relsL
  simp only [List.length_append, List.length_cons, List.length_nil]
  omega
/-! where it leads -/
def ok2 (p : List UInt8) : Prop := p ≠ [46] ∧ p ≠ [46, 46]
theorem run_ok : ∀ (ps st : List (List UInt8)), (∀ p ∈ ps, ok2 p) → run st ps = some (st ++ ps)
  | [], st, _ => by rw [run, List.append_nil]
  | p :: r, st, h => by
    have hg := h p List.mem_cons_self
    rw [run, if_neg hg.1, if_neg hg.2, run_ok r _ (fun q hq => h q (List.mem_cons_of_mem _ hq)), List.append_assoc, List.singleton_append]
theorem pcsF_at : ∀ (x cur y : List UInt8), pcsF cur (x ++ 47 :: y) = pcsF cur x ++ pcs y
  | [], cur, y => by
    rw [List.nil_append]
    show (if (47 : UInt8) = 47 then cur :: pcsF [] y else pcsF (cur ++ [47]) y) = _
    rw [if_pos rfl]
    rfl
  | c :: x, cur, y => by
    rw [List.cons_append, pcsF, pcsF]
    split
    · rw [pcsF_at x [] y]; rfl
    · exact pcsF_at x (cur ++ [c]) y
theorem pcsF_no : ∀ (x cur : List UInt8), 47 ∉ x → pcsF cur x = [cur ++ x]
  | [], cur, _ => by rw [pcsF, List.append_nil]
  | c :: x, cur, h => by
    rw [pcsF, if_neg (fun e => h (by rw [e]; exact List.mem_cons_self)), pcsF_no x _ (fun hm => h (List.mem_cons_of_mem _ hm)), List.append_assoc, List.singleton_append]
theorem join_c (x y : List UInt8) (r : List (List UInt8)) : Lib.join (x :: y :: r) [47] = x ++ 47 :: Lib.join (y :: r) [47] := by simp [Lib.join, List.intercalate]
theorem join_p : ∀ (t cur : List UInt8), Lib.join (pcsF cur t) [47] = cur ++ t
  | [], cur => by rw [pcsF, Lib.join_one, List.append_nil]
  | b :: t, cur => by
    rw [pcsF]
    split
    · rename_i h
      subst h
      have ih := join_p t []
      obtain ⟨y, r, hyr⟩ : ∃ y r, pcsF [] t = y :: r := by
        cases hh : pcsF [] t with
        | nil =>
          have := (pcsF_length t []).2
          rw [hh] at this
          simp at this
        | cons y r => exact ⟨y, r, rfl⟩
      rw [hyr] at ih ⊢
      rw [join_c, ih, List.nil_append]
    · rw [join_p t (cur ++ [b]), List.append_assoc, List.singleton_append]
theorem gd_ok {p : List UInt8} (h : Pcs.gd p = true) : ok2 p := by
  unfold Pcs.gd at h
  have := of_decide_eq_true h
  exact ⟨fun e => this.2 (by rw [e]; rfl), fun e => this.2 (by rw [e]; rfl)⟩
theorem rel_res (a : List UInt8) (hn : isN a = true) : resV a (([95, 114, 101, 108, 115, 47] ++ restL a) ++ [46, 114, 101, 108, 115]) = if isN (relsL a) then (relsL a, true) else ([], false) := by
  have h0 := hn
  unfold isN at h0
  rw [Bool.and_eq_true, Bool.and_eq_true] at h0
  obtain ⟨h1, h2, _⟩ := h0
  obtain ⟨_, _, hh⟩ := of_decide_eq_true h1
  obtain ⟨e1, n1⟩ := parts_of a hh
  have eall : allL a (([95, 114, 101, 108, 115, 47] ++ restL a) ++ [46, 114, 101, 108, 115]) = relsL a := by
    unfold allL relsL
    rw [if_neg (by simp)]
    simp
  have hno : 47 ∉ restL a ++ [46, 114, 101, 108, 115] := by
    rw [List.mem_append]
    rintro (h | h)
    · exact n1 h
    · revert h; decide
  have hlast : ok2 (restL a ++ [46, 114, 101, 108, 115]) := by
    constructor
    · intro e
      have := congrArg List.length e
      simp at this
    · intro e
      have := congrArg List.length e
      simp at this
  have hpc : ∀ p ∈ pcs ((relsL a).drop 1), ok2 p := by
    have hrel : relsL a = dirL a ++ 47 :: ([95, 114, 101, 108, 115] ++ 47 :: (restL a ++ [46, 114, 101, 108, 115])) := by
      unfold relsL
      simp
    have hp2 : pcs ([95, 114, 101, 108, 115] ++ 47 :: (restL a ++ [46, 114, 101, 108, 115])) = [[95, 114, 101, 108, 115], restL a ++ [46, 114, 101, 108, 115]] := by
      unfold pcs
      rw [pcsF_at, pcsF_no _ _ (by decide)]
      unfold pcs
      rw [pcsF_no _ _ hno]
      rfl
    have two : ∀ p ∈ [[95, 114, 101, 108, 115], restL a ++ [46, 114, 101, 108, 115]], ok2 p := by
      intro p hp
      rw [List.mem_cons, List.mem_singleton] at hp
      rcases hp with rfl | rfl
      · exact ⟨by decide, by decide⟩
      · exact hlast
    cases hd : dirL a with
    | nil =>
      rw [hrel, hd, List.nil_append, List.drop_succ_cons, List.drop_zero, hp2]
      exact two
    | cons c D =>
      rw [hrel, hd, List.cons_append, List.drop_succ_cons, List.drop_zero]
      unfold pcs
      rw [pcsF_at, hp2]
      intro p hp
      rw [List.mem_append] at hp
      rcases hp with hp | hp
      · rw [e1, hd, List.cons_append, List.drop_succ_cons, List.drop_zero] at h2
        unfold pcs at h2
        rw [pcsF_at, List.all_append, Bool.and_eq_true] at h2
        exact gd_ok (List.all_eq_true.1 h2.1 p hp)
      · exact two p hp
  unfold resV
  rw [if_neg (fun hx => by rw [hn] at hx; simp at hx), if_neg (by simp), eall, run_ok _ _ hpc, List.nil_append]
  unfold fin
  have hnm : nameOf (pcs ((relsL a).drop 1)) = relsL a := by
    unfold nameOf pcs
    rw [join_p, List.nil_append]
    have hhd : ∃ t, relsL a = 47 :: t := by
      unfold relsL
      cases hd : dirL a with
      | nil => exact ⟨_, rfl⟩
      | cons c D =>
        have : a.head? = some c := by rw [e1, hd]; rfl
        rw [hh] at this
        rw [← Option.some.inj this]
        exact ⟨_, rfl⟩
    obtain ⟨t, ht⟩ := hhd
    rw [ht]
    rfl
  simp only
  rw [hnm]
/-! rest -/
theorem rest_l0 (s : ByteArray) (hs : s.size ≤ 1000000) : ∀ (d i : Nat), s.size ≤ i + d → i ≤ s.size → Ev (fun k => rubricatorlaw12_rest.l0 k s (lastTo s.data.toList 47 i + 1) (i : Int)) (ba (restL s.data.toList)) := by
  have fin_ : Ev (fun k => rubricatorlaw12_rest.l0 k s (lastTo s.data.toList 47 s.size + 1) (s.size : Int)) (ba (restL s.data.toList)) := by
    have hr := lastTo_range s.data.toList 47 s.size
    refine ev_succ ?_
    simp only [rubricatorlaw12_rest.l0]
    refine ev_else (by omega) (ev_if (by omega) (ev_if (by omega) (ev_val ?_)))
    rw [ext_rest]
    unfold restL lastI
    rw [data_length]
  intro d
  induction d with
  | zero =>
    intro i h1 h2
    obtain rfl : i = s.size := by omega
    exact fin_
  | succ d ih =>
    intro i h1 h2
    by_cases h : i = s.size
    · subst h
      exact fin_
    · refine ev_succ ?_
      simp only [rubricatorlaw12_rest.l0]
      have hi : i < s.data.toList.length := by rw [data_length]; omega
      have hw : wrap64 ((i : Int) + 1) = ((i + 1 : Nat) : Int) := by unfold wrap64; omega
      have := ih (i + 1) (by omega) (by omega)
      rw [lastTo, List.getElem?_eq_getElem hi] at this
      rw [hw, bt_list s _ rfl i _ (List.getElem?_eq_getElem hi)]
      refine ev_if (by omega) (ev_if (by omega) ?_)
      by_cases h47 : s.data.toList[i] = 47
      · rw [h47, if_pos rfl] at this
        refine ev_if (by rw [h47]; rfl) ?_
        rw [show ((i + 1 : Nat) : Int) = (i : Int) + 1 by omega] at this ⊢
        exact this
      · rw [if_neg (fun e => h47 (Option.some.inj e))] at this
        exact ev_else (by rw [u8_47]; exact h47) this
theorem rest_ev (s : ByteArray) (hs : s.size ≤ 1000000) : Ev (fun k => rubricatorlaw12_rest.f k s) (ba (restL s.data.toList)) := by
  unfold rubricatorlaw12_rest.f
  have := rest_l0 s hs s.size 0 (by omega) (Nat.zero_le _)
  rw [lastTo] at this
  exact this
theorem PartsRelated : rubricatorlaw12_PartsRelated.Pure := by
  intro a0 a1 h0 h1
  refine Ev.rounds ?_
  unfold rubricatorlaw12_PartsRelated.f
  have hw : wrap64 ((a0.size : Int) + (a1.size : Int)) = ((a0.size + a1.size : Nat) : Int) := by unfold wrap64; omega
  rw [hw]
  have out : Ev (fun k => rubricatorlaw12_PartsRelated.j0 k a0 a1 true) true := by
    refine ev_succ ?_
    simp only [rubricatorlaw12_PartsRelated.j0]
    exact ev_if trivial (ev_val rfl)
  by_cases hb : ((a0.size + a1.size : Nat) : Int) > 1000
  · exact ev_if hb out
  have s0 : a0.size ≤ 1000000 := by omega
  have s1 : a1.size ≤ 1000000 := by omega
  refine ev_else hb (Ev.bind (ref_is_ev a0 s0) ?_)
  cases hn0 : isN a0.data.toList with
  | false => exact ev_else (by simp) out
  | true =>
    refine ev_if rfl (Ev.bind (ref_is_ev a1 s1) ?_)
    cases hn1 : isN a1.data.toList with
    | false => exact out
    | true =>
      have hd : ∀ l : List UInt8, isN l = true → l.head? = some 47 ∧ l.length ≤ 200 := by
        intro l hl
        unfold isN at hl
        rw [Bool.and_eq_true] at hl
        obtain ⟨_, h2, h3⟩ := of_decide_eq_true hl.1
        exact ⟨h3, h2⟩
      obtain ⟨hh0, hl0⟩ := hd _ hn0
      obtain ⟨hh1, _⟩ := hd _ hn1
      have hrl : (restL a0.data.toList).length ≤ 200 := by unfold restL; rw [List.length_drop]; omega
      refine ev_succ ?_
      simp only [rubricatorlaw12_PartsRelated.j0]
      refine ev_else (by simp) (Ev.bind (rels_ev a0 s0) (Ev.bind (rels_ev a1 s1) (Ev.bind (rest_ev a0 s0) ?_)))
      have e1 : (⟨#[95, 114, 101, 108, 115, 47]⟩ : ByteArray) = ba [95, 114, 101, 108, 115, 47] := rfl
      rw [e1, lit5]
      simp only [ba_app]
      refine ev_if (by rw [ba_size]; omega) (ev_if (by rw [ba_size, List.length_append]; simp; omega) ?_)
      have hz0 : a0.size ≤ 200 := by rw [data_length] at hl0; exact hl0
      have hres := res_ev a0 (ba (([95, 114, 101, 108, 115, 47] ++ restL a0.data.toList) ++ [46, 114, 101, 108, 115])) (by rw [ba_size]; simp; omega)
      rw [data_ba, rel_res _ hn0] at hres
      refine Ev.bind hres ?_
      have heq : (((ba (relsL a0.data.toList)).toList == (ba (relsL a1.data.toList)).toList) == (a0.toList == a1.toList)) = true := by
        rw [toList_ba, toList_ba, toList_ba, toList_ba, data_ba, data_ba, beq_iff_eq, Bool.eq_iff_iff, beq_iff_eq, beq_iff_eq]
        exact ⟨rels_inj hh0 hh1, fun e => by rw [e]⟩
      refine ev_if heq ?_
      have hlen : ((ba (relsL a0.data.toList)).size : Int) = wrap64 ((a0.size : Int) + 11) := by
        rw [ba_size, rels_len hh0, data_length]
        unfold wrap64
        omega
      cases hN : isN (relsL a0.data.toList) with
      | true => exact ev_if rfl (ev_if rfl (ev_if hlen (kn3 _ fun _ => rfl)))
      | false => exact ev_else (by simp [bp]) (ev_if hlen (kn3 _ fun _ => rfl))
end Go.Proofs.YtdooaaefldjinaaDoor.Pure
