/- The least cost, as the document says it: the sums of the first packages. Plain law; the conditions stand in each theorem. -/
import Derived.Test.YtachnclfgjdglaaMayP
import Derived.Test.YtachnclfgjdglaaPAx3
import Derived.Test.YtachnclfgjdglaaPAx4
import Derived.Test.YtachnclfgjdglaaPAx5
namespace Go.Proofs.Ytachnclfgjdglaa.Pack
open Go.RowKit Go.Proofs.Ytachnclfgjdglaa.PA Go.Proofs.YtachnclfgjdglaaW.PrintWords Go.Proofs.YtachnclfgjdglaaW.PrintLast Go.Proofs.YtachnclfgjdglaaW.PrintMore Go.Proofs.YtachnclfgjdglaaAid Go.Proofs.YtachnclfgjdglaaSrt Go.Proofs.Ytachnclfgjdglaa.Coin Go.Proofs.Ytachnclfgjdglaa.Known Go.Proofs.Ytachnclfgjdglaa.Next
set_option linter.unusedVariables false
set_option linter.unusedSimpArgs false

/-! ### whole numbers in order -/
def ki (x : Int) : Int := x
theorem fl_ki (k : Int) (l : List Int) : fl ki k l = List.replicate (l.count k) k := by
  induction l with
  | nil => rfl
  | cons x l ih =>
    rw [fl_cons, List.count_cons, ih]
    by_cases h : ki x = k
    · have h' : x = k := h
      rw [if_pos h, h', if_pos (by simp), List.replicate_succ]
    · have h' : ¬ x = k := h
      rw [if_neg h, if_neg (by simpa using h')]
      rfl
theorem ints_uniq (l m : List Int) (hl : St ki l) (hm : St ki m) (hp : l.Perm m) : l = m := st_uniq ki l m hl hm (fun k => by rw [fl_ki, fl_ki, hp.count_eq])
theorem map_st {S : List It} (h : St ky S) : St ki (S.map (·.1)) := List.pairwise_map.2 h
theorem mrg_map : ∀ A B : List It, (mrg ky A B).map (·.1) = mrg ki (A.map (·.1)) (B.map (·.1))
  | [], B => by rw [nil_mrg, List.map_nil, nil_mrg]
  | a :: A, [] => by rw [mrg_nil, List.map_nil, mrg_nil]
  | a :: A, b :: B => by
    rw [mrg, List.map_cons, List.map_cons, mrg]
    show (if b.1 < a.1 then _ else _ : List It).map (·.1) = if b.1 < a.1 then _ else _
    by_cases h : b.1 < a.1
    · rw [if_pos h, if_pos h, List.map_cons, mrg_map (a :: A) B, List.map_cons]
    · rw [if_neg h, if_neg h, List.map_cons, mrg_map A (b :: B), List.map_cons]
termination_by A B => A.length + B.length
/-- numbers two by two -/
def pairsI : List Int → List Int
  | x :: y :: t => (x + y) :: pairsI t
  | _ => []
theorem pairs_map : ∀ l : List It, (pairsL l).map (·.1) = pairsI (l.map (·.1))
  | [] => rfl
  | [x] => rfl
  | x :: y :: t => by
    rw [pairsL, List.map_cons, pairs_map t, List.map_cons, List.map_cons, pairsI]
/-! ### the document's sorted -/
theorem sorted_in (o l : List Int) (i : Nat) (hi : i < o.length) (hn : o.length ≤ 320) (hl : l.length ≤ 320) (R : List Int)
    (hR : ∀ j, j ≤ l.length → (∀ q, q < j → l.getD q 0 < o.getD i 0) → (j = l.length ∨ o.getD i 0 ≤ l.getD j 0) → Ev (fun k => rubricatorref3_sorted.l0 k o (l.take j ++ [o.getD i 0] ++ l.drop j) ((i + 1 : Nat) : Int)) R) :
    ∀ (e j : Nat), l.length = j + e → (∀ q, q < j → l.getD q 0 < o.getD i 0) → Ev (fun k => rubricatorref3_sorted.l1 k o l (i : Int) (j : Int)) R := by
  have hw : wrap64 ((i : Int) + 1) = ((i + 1 : Nat) : Int) := by unfold wrap64; omega
  intro e
  induction e with
  | zero =>
    intro j hj hq
    refine ev_succ ?_
    simp only [rubricatorref3_sorted.l1, Option.bind_some, List.nil_append]
    have h := hR j (by omega) hq (.inl (by omega))
    rw [hw]
    refine ev_else (by omega) (ev_if (by omega) (ev_if (by omega) (ev_if (by simp; omega) (ev_if (by omega) (ev_if (by omega) (ev_if (by simp; omega) (ev_if (by simp; omega) ?_)))))))
    rw [Int.toNat_natCast]
    exact h
  | succ e ih =>
    intro j hj hq
    refine ev_succ ?_
    simp only [rubricatorref3_sorted.l1, Option.bind_some, List.nil_append]
    refine ev_if (by omega) (ev_if (by omega) (ev_if (by omega) (ev_if (by omega) ?_)))
    by_cases hlt : rd l (j : Int) < rd o (i : Int)
    · refine ev_if hlt ?_
      rw [show wrap64 ((j : Int) + 1) = ((j + 1 : Nat) : Int) by unfold wrap64; omega]
      refine ih (j + 1) (by omega) (fun q hqj => ?_)
      by_cases hqe : q = j
      · subst hqe; exact hlt
      · exact hq q (by omega)
    · have h := hR j (by omega) hq (.inr (Int.not_lt.1 hlt))
      rw [hw]
      refine ev_else hlt (ev_if (by omega) (ev_if (by simp; omega) (ev_if (by simp; omega) (ev_if (by simp; omega) ?_))))
      rw [Int.toNat_natCast]
      exact h
theorem ins_st (l : List Int) (v : Int) (j : Nat) (hs : St ki l) (hj : j ≤ l.length) (h1 : ∀ q, q < j → l.getD q 0 < v) (h2 : j = l.length ∨ v ≤ l.getD j 0) : St ki (l.take j ++ [v] ++ l.drop j) := by
  have hd : ∀ q, q < l.length → l[q]! = l.getD q 0 := fun q hq => by rw [getElem!_pos l q hq, List.getD_eq_getElem?_getD, List.getElem?_eq_getElem hq]; rfl
  rw [List.append_assoc, st_append, List.singleton_append, st_cons]
  refine ⟨hs.sublist (List.take_sublist _ _), ⟨fun y hy => ?_, hs.sublist (List.drop_sublist _ _)⟩, fun x hx y hy => ?_⟩
  · obtain ⟨s, s1, s2, rfl⟩ := mem_drop_at hy
    have a := st_at ki hs s1 s2
    rw [hd s s2, hd j (by omega)] at a
    have b := h2.resolve_left (by omega)
    show v ≤ l[s]!
    rw [hd s s2]
    exact Int.le_trans b a
  · obtain ⟨s, s1, s2, rfl⟩ := mem_take_at hx
    have c := h1 s s1
    rcases List.mem_cons.1 hy with rfl | hy
    · show l[s]! ≤ y
      rw [hd s s2]
      omega
    · obtain ⟨t, t1, t2, rfl⟩ := mem_drop_at hy
      exact st_at ki hs (by omega) t2
theorem sorted_go (o : List Int) (hn : o.length ≤ 320) (S0 : List It) (hS : sgl o o.length = some S0) : ∀ (e i : Nat) (l : List Int) (T : List It), o.length = i + e → sgl o i = some T → St ki l → l.Perm (T.map (·.1)) → l.length ≤ i →
    Ev (fun k => rubricatorref3_sorted.l0 k o l (i : Int)) ((srt ltP S0).map (·.1)) := by
  intro e
  induction e with
  | zero =>
    intro i l T hi hs hl hp hll
    obtain rfl : i = o.length := by omega
    rw [hS] at hs
    obtain rfl := Option.some.inj hs
    refine ev_succ ?_
    simp only [rubricatorref3_sorted.l0]
    refine ev_else (by omega) (ev_val ?_)
    refine ints_uniq _ _ hl (map_st (by rw [← kl_ky]; exact srt_st ky S0)) (hp.trans ?_)
    exact ((srt_perm ltP S0).map (·.1)).symm
  | succ e ih =>
    intro i l T hi hs hl hp hll
    have hw : wrap64 ((i : Int) + 1) = ((i + 1 : Nat) : Int) := by unfold wrap64; omega
    have hstep := sgl_step hs
    have hG := sgl_sg o.length S0 hS
    have hr := hG.range i (by omega)
    rw [if_neg (by omega)] at hstep
    refine ev_succ ?_
    simp only [rubricatorref3_sorted.l0]
    refine ev_if (by omega) (ev_if (by omega) ?_)
    by_cases hz : rd o (i : Int) ≤ 0
    · have hz' : ¬ o.getD i 0 > 0 := by have : rd o (i : Int) = o.getD i 0 := rfl; omega
      rw [if_neg hz'] at hstep
      rw [hw]
      exact ev_if hz (ih (i + 1) l T (by omega) hstep hl hp (by omega))
    · have hz' : o.getD i 0 > 0 := by have : rd o (i : Int) = o.getD i 0 := rfl; omega
      rw [if_pos hz'] at hstep
      refine ev_else hz (sorted_in o l i (by omega) hn (by omega) _ (fun j hj h1 h2 => ?_) l.length 0 (by omega) (fun q hq => absurd hq (by omega)))
      refine ih (i + 1) _ _ (by omega) hstep (ins_st l _ j hl hj h1 h2) ?_ (by simp; omega)
      rw [List.map_append]
      refine List.Perm.trans ?_ (hp.append (.refl _))
      rw [List.append_assoc]
      refine (List.Perm.append_left (l.take j) List.perm_append_comm).trans ?_
      rw [← List.append_assoc, List.take_append_drop]
      exact .refl _
theorem sorted_ev (o : List Int) (hn : o.length ≤ 320) (S0 : List It) (hS : sgl o o.length = some S0) : Ev (fun k => rubricatorref3_sorted.f k o) ((srt ltP S0).map (·.1)) := by
  unfold rubricatorref3_sorted.f
  exact sorted_go o hn S0 hS o.length 0 [] [] (by omega) rfl .nil (.refl _) (Nat.le_refl _)
/-! ### the document's merge -/
theorem merge_go (a b : List Int) (ha : a.length ≤ 100000) (hb : b.length ≤ 100000) : ∀ (e i j : Nat) (out : List Int), i ≤ a.length → j ≤ b.length → a.length + b.length = i + j + e → out.length = i + j →
    Ev (fun k => rubricatorref3_merge.l0 k a b out (i : Int) (j : Int)) (out ++ mrg ki (a.drop i) (b.drop j)) := by
  intro e
  induction e with
  | zero =>
    intro i j out hi hj he ho
    refine ev_succ ?_
    simp only [rubricatorref3_merge.l0]
    refine ev_else (by omega) ?_
    rw [show decide ((j : Int) < (b.length : Int)) = false from decide_eq_false (by omega)]
    refine ev_succ ?_
    simp only [rubricatorref3_merge.j1]
    refine ev_else (by simp) (ev_val ?_)
    rw [List.drop_of_length_le (by omega), List.drop_of_length_le (by omega), nil_mrg, List.append_nil]
  | succ e ih =>
    intro i j out hi hj he ho
    have hwi : wrap64 ((i : Int) + 1) = ((i + 1 : Nat) : Int) := by unfold wrap64; omega
    have hwj : wrap64 ((j : Int) + 1) = ((j + 1 : Nat) : Int) := by unfold wrap64; omega
    have ra : ∀ h : i < a.length, rd a (i : Int) = a[i] := fun h => by
      show a.getD i 0 = _
      rw [List.getD_eq_getElem?_getD, List.getElem?_eq_getElem h]; rfl
    have rb : ∀ h : j < b.length, rd b (j : Int) = b[j] := fun h => by
      show b.getD j 0 = _
      rw [List.getD_eq_getElem?_getD, List.getElem?_eq_getElem h]; rfl
    have key : Ev (fun k => rubricatorref3_merge.j1 k a b out (i : Int) (j : Int) true) (out ++ mrg ki (a.drop i) (b.drop j)) := by
      refine ev_succ ?_
      simp only [rubricatorref3_merge.j1]
      rw [hwi, hwj]
      refine ev_if (by first | rfl | trivial) ?_
      by_cases hje : j = b.length
      · have hia : i < a.length := by omega
        refine ev_if (by omega) (ev_if (by omega) (ev_if (by omega) (ev_if (by omega) ?_)))
        have h := ih (i + 1) j (out ++ [rd a (i : Int)]) (by omega) hj (by omega) (by simp; omega)
        rw [ra hia] at h ⊢
        rw [List.drop_of_length_le (show b.length ≤ j by omega), mrg_nil] at h ⊢
        rw [List.drop_eq_getElem_cons hia]
        simpa using h
      · have hjb : j < b.length := by omega
        refine ev_else (by omega) ?_
        by_cases hia : i < a.length
        · refine ev_if (by omega) (ev_if (by omega) (ev_if (by omega) (ev_if (by omega) ?_)))
          rw [List.drop_eq_getElem_cons hia, List.drop_eq_getElem_cons hjb, mrg]
          by_cases hle : rd a (i : Int) ≤ rd b (j : Int)
          · refine ev_if hle (ev_if (by omega) ?_)
            have h := ih (i + 1) j (out ++ [rd a (i : Int)]) (by omega) hj (by omega) (by simp; omega)
            rw [ra hia, rb hjb] at hle
            rw [ra hia] at h ⊢
            rw [if_neg (show ¬ ki b[j] < ki a[i] from Int.not_lt.2 hle)]
            rw [List.drop_eq_getElem_cons hjb] at h
            simpa using h
          · refine ev_else hle (ev_if (by omega) ?_)
            have h := ih i (j + 1) (out ++ [rd b (j : Int)]) hi (by omega) (by omega) (by simp; omega)
            rw [ra hia, rb hjb] at hle
            rw [rb hjb] at h ⊢
            rw [if_pos (show ki b[j] < ki a[i] from Int.not_le.1 hle)]
            rw [List.drop_eq_getElem_cons hia] at h
            simpa using h
        · refine ev_else (by omega) (ev_if (by omega) (ev_if (by omega) (ev_if (by omega) ?_)))
          have h := ih i (j + 1) (out ++ [rd b (j : Int)]) hi (by omega) (by omega) (by simp; omega)
          rw [rb hjb] at h ⊢
          rw [List.drop_of_length_le (show a.length ≤ i by omega), nil_mrg] at h ⊢
          rw [List.drop_eq_getElem_cons hjb]
          simpa using h
    refine ev_succ ?_
    simp only [rubricatorref3_merge.l0]
    by_cases hia : i < a.length
    · exact ev_if (by omega) key
    · refine ev_else (by omega) ?_
      rw [show decide ((j : Int) < (b.length : Int)) = true from decide_eq_true (by omega)]
      exact key
theorem merge_ev (a b : List Int) (ha : a.length ≤ 100000) (hb : b.length ≤ 100000) : Ev (fun k => rubricatorref3_merge.f k a b) (mrg ki a b) := by
  unfold rubricatorref3_merge.f
  exact merge_go a b ha hb (a.length + b.length) 0 0 [] (by omega) (by omega) (by omega) rfl
/-! ### the document's Least -/
theorem pairsI_len : ∀ l : List Int, (pairsI l).length = l.length / 2
  | [] => rfl
  | [x] => by simp [pairsI]
  | x :: y :: t => by
    rw [pairsI, List.length_cons, pairsI_len t, List.length_cons, List.length_cons]
    omega
theorem pack_go (most : Int) (l row : List Int) (i : Int) (hr : row.length ≤ 100000) (hb : ∀ x ∈ row, 0 ≤ x ∧ x ≤ 1000000000000) (R : Int) (hl : l.length ≤ 100000)
    (hR : Ev (fun k => rubricatorref3_Least.l1 k most l (mrg ki l (pairsI row)) (wrap64 (i + 1))) R) : ∀ (e q : Nat) (pk : List Int), row.length ≤ q + e → q ≤ row.length → pk.length ≤ q → pk ++ pairsI (row.drop q) = pairsI row →
    Ev (fun k => rubricatorref3_Least.l2 k most l row i pk (q : Int)) R := by
  intro e
  induction e using Nat.strongRecOn with
  | _ e ih =>
    intro q pk h1 h2 hpl hpk
    have hw : wrap64 ((q : Int) + 1) = ((q + 1 : Nat) : Int) := by unfold wrap64; omega
    have hw2 : wrap64 ((q : Int) + 2) = ((q + 2 : Nat) : Int) := by unfold wrap64; omega
    refine ev_succ ?_
    simp only [rubricatorref3_Least.l2]
    rw [hw, hw2]
    by_cases hc : q + 1 < row.length
    · refine ev_if (by omega) (ev_if (by omega) (ev_if (by omega) (ev_if (by omega) (ev_if (by omega) ?_))))
      have g0 : rd row (q : Int) = row[q] := by
        show row.getD q 0 = _
        rw [List.getD_eq_getElem?_getD, List.getElem?_eq_getElem (by omega)]; rfl
      have g1 : rd row ((q + 1 : Nat) : Int) = row[q + 1] := by
        show row.getD (q + 1) 0 = _
        rw [List.getD_eq_getElem?_getD, List.getElem?_eq_getElem hc]; rfl
      have b0 := hb row[q] (List.getElem_mem _)
      have b1 := hb row[q + 1] (List.getElem_mem _)
      rw [g0, g1, w64 (x := row[q] + row[q + 1]) (by omega) (by omega)]
      refine ih (e - 2) (by omega) (q + 2) _ (by omega) (by omega) (by simp; omega) ?_
      rw [← hpk, List.drop_eq_getElem_cons (show q < row.length by omega), List.drop_eq_getElem_cons hc, pairsI]
      simp
    · refine ev_else (by omega) ?_
      have hpe : pk = pairsI row := by
        rw [← hpk]
        have : pairsI (row.drop q) = [] := by
          rcases Nat.lt_or_ge q row.length with h | h
          · rw [List.drop_eq_getElem_cons h, List.drop_of_length_le (by omega)]
            rfl
          · rw [List.drop_of_length_le h]
            rfl
        rw [this, List.append_nil]
      rw [hpe]
      refine Ev.bind (merge_ev l (pairsI row) hl (by rw [pairsI_len]; omega)) hR
theorem sum_nonneg : ∀ l : List Int, (∀ x ∈ l, 0 ≤ x) → 0 ≤ l.sum
  | [], _ => Int.le_refl _
  | x :: l, h => by
    rw [List.sum_cons]
    have := h x (by simp)
    have := sum_nonneg l (fun y hy => h y (by simp [hy]))
    omega
theorem sum_take_le (l : List Int) (B : Int) (hB : 0 ≤ B) (h : ∀ x ∈ l, 0 ≤ x ∧ x ≤ B) : ∀ k, 0 ≤ (l.take k).sum ∧ (l.take k).sum ≤ (k : Int) * B := fun k => by
  refine ⟨sum_nonneg _ (fun x hx => (h x (List.mem_of_mem_take hx)).1), ?_⟩
  induction k with
  | zero => simp
  | succ k ih =>
    rcases Nat.lt_or_ge k l.length with hk | hk
    · rw [List.take_succ_eq_append_getElem hk, List.sum_append, List.sum_cons, List.sum_nil, show ((k + 1 : Nat) : Int) = (k : Int) + 1 by omega, Int.add_mul]
      have := (h l[k] (List.getElem_mem hk)).2
      omega
    · rw [List.take_of_length_le (by omega)]
      rw [List.take_of_length_le hk] at ih
      rw [show ((k + 1 : Nat) : Int) = (k : Int) + 1 by omega, Int.add_mul]
      omega
theorem sum_go (l row : List Int) (hl : 1 ≤ l.length) (hl2 : l.length ≤ 100000) (hr : row.length ≤ 100000) (hb : ∀ x ∈ row, 0 ≤ x ∧ x ≤ 1000000000000) (ht : 2 * l.length - 2 ≤ row.length) : ∀ (e q : Nat), 2 * l.length - 2 = q + e →
    Ev (fun k => rubricatorref3_Least.l3 k l row (row.take q).sum (q : Int)) (row.take (2 * l.length - 2)).sum := by
  have hw : wrap64 (wrap64 (2 * (l.length : Int)) - 2) = ((2 * l.length - 2 : Nat) : Int) := by
    rw [w64 (x := 2 * (l.length : Int)) (by omega) (by omega), w64 (by omega) (by omega)]
    omega
  intro e
  induction e with
  | zero =>
    intro q hq
    refine ev_succ ?_
    simp only [rubricatorref3_Least.l3]
    rw [hw]
    exact ev_else (by omega) (ev_val (by rw [hq]; rfl))
  | succ e ih =>
    intro q hq
    refine ev_succ ?_
    simp only [rubricatorref3_Least.l3]
    rw [hw]
    have hqr : q < row.length := by omega
    have g0 : rd row (q : Int) = row[q] := by
      show row.getD q 0 = _
      rw [List.getD_eq_getElem?_getD, List.getElem?_eq_getElem (by omega)]; rfl
    have b0 := hb row[q] (List.getElem_mem _)
    have b1 := sum_take_le row 1000000000000 (by omega) hb q
    refine ev_if (by omega) (ev_if (by omega) (ev_if (by omega) ?_))
    have h := ih (q + 1) (by omega)
    rw [List.take_succ_eq_append_getElem hqr, List.sum_append, List.sum_cons, List.sum_nil, Int.add_zero] at h
    rw [g0, w64 (x := (row.take q).sum + row[q]) (by omega) (by omega), show wrap64 ((q : Int) + 1) = ((q + 1 : Nat) : Int) by unfold wrap64; omega]
    exact h
theorem few_go (l : List Int) (hl : l.length ≤ 100000) (hb : ∀ x ∈ l, 0 ≤ x ∧ x ≤ 1000000000000) : ∀ (e q : Nat), l.length = q + e → Ev (fun k => rubricatorref3_Least.l0 k l (l.take q).sum (q : Int)) l.sum := by
  intro e
  induction e with
  | zero =>
    intro q hq
    refine ev_succ ?_
    simp only [rubricatorref3_Least.l0]
    exact ev_else (by omega) (ev_val (by rw [List.take_of_length_le (by omega)]))
  | succ e ih =>
    intro q hq
    have hql : q < l.length := by omega
    have g0 : rd l (q : Int) = l[q] := by
      show l.getD q 0 = _
      rw [List.getD_eq_getElem?_getD, List.getElem?_eq_getElem (by omega)]; rfl
    have b0 := hb l[q] (List.getElem_mem _)
    have b1 := sum_take_le l 1000000000000 (by omega) hb q
    refine ev_succ ?_
    simp only [rubricatorref3_Least.l0]
    refine ev_if (by omega) (ev_if (by omega) ?_)
    have h := ih (q + 1) (by omega)
    rw [List.take_succ_eq_append_getElem hql, List.sum_append, List.sum_cons, List.sum_nil, Int.add_zero] at h
    rw [g0, w64 (x := (l.take q).sum + l[q]) (by omega) (by omega), show wrap64 ((q : Int) + 1) = ((q + 1 : Nat) : Int) by unfold wrap64; omega]
    exact h
/-- what the document's Least comes to -/
def leastP (S0 : List It) (most : Int) : Int := if S0.length < 2 then mo S0 else mo ((rows (srt ltP S0) (most.toNat - 1)).take (2 * S0.length - 2))
theorem least_ev (o : List Int) (most : Int) (hn : o.length ≤ 320) (h1 : 1 ≤ most) (h2 : most ≤ 15) (S0 : List It) (hS : sgl o o.length = some S0) (hm : S0.length ≤ 2 ^ most.toNat) : Ev (fun k => rubricatorref3_Least.f k o most) (leastP S0 most) := by
  obtain ⟨hinv, hl⟩ := sgl_inv o.length S0 hS
  obtain ⟨S, hSe⟩ : ∃ S, S = srt ltP S0 := ⟨_, rfl⟩
  have hperm : S.Perm S0 := by rw [hSe]; exact srt_perm _ _
  have hSl : S.length = S0.length := hperm.length_eq
  have hSt : St ky S := by rw [hSe, ← kl_ky]; exact srt_st ky S0
  have hri := rows_inv (hinv.perm hperm) (by omega)
  have hbd : ∀ k, k ≤ 15 → ∀ x ∈ (rows S k).map (·.1), 0 ≤ x ∧ x ≤ 1000000000000 := fun k hk x hx => by
    obtain ⟨y, hy, rfl⟩ := List.mem_map.1 hx
    have h := ((hri k).each y hy)
    have hb : ((k + 1 : Nat) : Int) * ((S0.length : Int) * 1048576) ≤ 16 * (320 * 1048576) := Int.mul_le_mul (by omega) (by omega) (by omega) (by omega)
    exact ⟨h.1, by have := h.2.1; omega⟩
  have hrl : ∀ k, ((rows S k).map (·.1)).length ≤ 640 := fun k => by
    rw [List.length_map]
    have := rows_len S k
    omega
  unfold rubricatorref3_Least.f
  refine Ev.bind (sorted_ev o hn S0 hS) ?_
  rw [← hSe]
  have hml : (S.map (·.1)).length = S0.length := by rw [List.length_map, hSl]
  unfold leastP
  rw [← hSe]
  by_cases hf : S0.length < 2
  · rw [if_pos hf]
    refine ev_if (by rw [hml]; omega) ?_
    have h := few_go (S.map (·.1)) (by omega) (hbd 0 (by omega)) S0.length 0 (by omega)
    have e : (S.map (·.1)).sum = mo S0 := by
      show mo S = mo S0
      exact mo_perm hperm
    rw [e] at h
    exact h
  · rw [if_neg hf]
    refine ev_else (by rw [hml]; omega) ?_
    have hrow : ∀ k, mrg ki (S.map (·.1)) (pairsI ((rows S k).map (·.1))) = (rows S (k + 1)).map (·.1) := fun k => by
      rw [rows_mrg S hSt k, mrg_map, pairs_map]
    have hloop : ∀ (e k : Nat), most.toNat = k + 1 + e → Ev (fun q => rubricatorref3_Least.l1 q most (S.map (·.1)) ((rows S k).map (·.1)) ((k + 1 : Nat) : Int)) (mo ((rows S (most.toNat - 1)).take (2 * S0.length - 2))) := by
      intro e
      induction e with
      | zero =>
        intro k hk
        refine ev_succ ?_
        simp only [rubricatorref3_Least.l1]
        refine ev_else (by omega) ?_
        have ht := rows_enough S most.toNat (by omega) (by omega)
        rw [show most.toNat - 1 = k by omega] at ht ⊢
        have h := sum_go (S.map (·.1)) ((rows S k).map (·.1)) (by omega) (by omega) (by have := hrl k; omega) (hbd k (by omega)) (by rw [hml, List.length_map]; omega) (2 * (S.map (·.1)).length - 2) 0 (by omega)
        have e2 : (((rows S k).map (·.1)).take (2 * S0.length - 2)).sum = mo ((rows S k).take (2 * S0.length - 2)) := by rw [← List.map_take]; rfl
        rw [hml, e2] at h
        exact h
      | succ e ih =>
        intro k hk
        refine ev_succ ?_
        simp only [rubricatorref3_Least.l1]
        refine ev_if (by omega) ?_
        refine pack_go most (S.map (·.1)) ((rows S k).map (·.1)) ((k + 1 : Nat) : Int) (by have := hrl k; omega) (hbd k (by omega)) _ (by omega) ?_ ((rows S k).map (·.1)).length 0 [] (by omega) (by omega) (Nat.le_refl _) rfl
        rw [hrow k, show wrap64 (((k + 1 : Nat) : Int) + 1) = ((k + 1 + 1 : Nat) : Int) by unfold wrap64; omega]
        exact ih (k + 1) (by omega)
    refine ev_succ ?_
    simp only [rubricatorref3_Least.l1]
    refine ev_if (by omega) ?_
    refine pack_go most (S.map (·.1)) [] 0 (by simp) (fun x hx => by cases hx) _ (by omega) ?_ 0 0 [] (by simp) (by simp) (Nat.le_refl _) rfl
    rw [show pairsI [] = [] from rfl, mrg_nil, show wrap64 ((0 : Int) + 1) = ((0 + 1 : Nat) : Int) by unfold wrap64; decide]
    exact hloop (most.toNat - 1) 0 (by omega)
end Go.Proofs.Ytachnclfgjdglaa.Pack
