/- Where any target leads, seen from any part. No conditions. -/
import Derived.Test.YtdooaaefldjinaaDoorPAx6
import Derived.Test.YtdooaaefldjinaaDoorRes
namespace Go.Proofs.YtdooaaefldjinaaDoor.Pure
open Go.RowKit Go.Proofs.YtdooaaefldjinaaDoor.PA Go.Proofs.YtdooaaefldjinaaDoorW.PrintWords Go.Proofs.YtdooaaefldjinaaDoorW.PrintLast Go.Proofs.YtdooaaefldjinaaDoorAid Go.Proofs.YtdooaaefldjinaaDoor.Pcs
set_option linter.unusedVariables false
namespace Rs
theorem kn5 (g : Nat → Option Bool) (h : ∀ k, g k = (rubricatorlaw12_known.f k).bind fun t => some t) : Ev g true := Ev.congr h (Ev.bind known_ev (ev_val rfl))
theorem stroke_eq : ∀ (k : Nat) (x : ByteArray) (i : Int), rubricatorref12_stroke.l0 k x i = bytealg_LastIndexByteString.l0 k x 47 i
  | 0, x, i => rfl
  | k + 1, x, i => by
    rw [rubricatorref12_stroke.l0, bytealg_LastIndexByteString.l0, stroke_eq k]
theorem stroke_ev (s : ByteArray) (hs : s.size ≤ 1000000) : Ev (fun k => rubricatorref12_stroke.f k s) (lastI s.data.toList 47) := by
  have h := last_ev s hs 47
  refine Ev.congr (fun k => ?_) h
  unfold rubricatorref12_stroke.f bytealg_LastIndexByteString.f
  rw [stroke_eq]
  rfl
theorem steps_run : ∀ (ps st : List (List UInt8)), rubricatorref12_Resolve.steps (st.map ba) (ps.map ba) = (run st ps).map (fun l => l.map ba)
  | [], st => by rw [List.map_nil, rubricatorref12_Resolve.steps, run]; rfl
  | p :: r, st => by
    rw [List.map_cons, rubricatorref12_Resolve.steps, run, toList_ba, data_ba, List.length_map]
    by_cases h1 : p = [46]
    · rw [if_pos h1, if_pos h1, steps_run r]
    rw [if_neg h1, if_neg h1]
    by_cases h2 : p = [46, 46]
    · rw [if_pos h2, if_pos h2]
      by_cases h3 : st = []
      · rw [if_pos (by rw [h3]; rfl), if_pos h3]
        rfl
      · rw [if_neg (fun e => h3 (List.eq_nil_of_length_eq_zero e)), if_neg h3, ← List.map_take, ← List.dropLast_eq_take, steps_run r]
    · rw [if_neg h2, if_neg h2, show st.map ba ++ [ba p] = (st ++ [p]).map ba by simp, steps_run r]
def outL (st : List (List UInt8)) : List UInt8 := (st.map (fun p => 47 :: p)).flatten
theorem out_L : ∀ (st : List (List UInt8)) (o : List UInt8), rubricatorref12_Resolve.out (st.map ba) (ba o) = ba (o ++ outL st)
  | [], o => by rw [List.map_nil, rubricatorref12_Resolve.out]; unfold outL; simp
  | p :: r, o => by
    rw [List.map_cons, rubricatorref12_Resolve.out, show (⟨#[47]⟩ : ByteArray) = ba [47] from rfl, ba_app, ba_app, out_L r]
    unfold outL
    simp
theorem outL_len : ∀ st : List (List UInt8), (outL st).length = (st.map List.length).sum + st.length
  | [] => rfl
  | p :: r => by
    have := outL_len r
    unfold outL at this ⊢
    rw [List.map_cons, List.flatten_cons, List.length_append, this, List.map_cons, List.sum_cons, List.length_cons, List.length_cons]
    omega
theorem outL_name : ∀ (p : List UInt8) (r : List (List UInt8)), outL (p :: r) = nameOf (p :: r)
  | p, [] => by unfold outL nameOf; rw [Lib.join_one]; simp
  | p, q :: r => by
    have := outL_name q r
    have e : Lib.join (p :: q :: r) [47] = p ++ 47 :: Lib.join (q :: r) [47] := by simp [Lib.join, List.intercalate]
    unfold nameOf at this ⊢
    rw [e, ← this]
    unfold outL
    simp
theorem isN_short (l : List UInt8) (h : l.length < 2) : isN l = false := by
  unfold isN
  rw [decide_eq_false (by omega)]
  rfl
theorem run_size : ∀ (ps st st' : List (List UInt8)), run st ps = some st' → (st'.map List.length).sum + st'.length ≤ (st.map List.length).sum + st.length + (ps.map List.length).sum + ps.length
  | [], st, st', h => by
    rw [run] at h
    obtain rfl := Option.some.inj h
    simp
  | p :: r, st, st', h => by
    rw [run] at h
    rw [List.map_cons, List.sum_cons, List.length_cons]
    split at h
    · have := run_size r st st' h
      omega
    · split at h
      · split at h
        · cases h
        · rename_i hne
          have := run_size r _ st' h
          obtain ⟨x, y, rfl⟩ : ∃ x y, st = x ++ [y] := ⟨st.dropLast, st.getLast hne, (List.dropLast_concat_getLast hne).symm⟩
          rw [List.dropLast_concat] at this
          rw [tot_app, List.length_append, List.length_singleton]
          omega
      · have := run_size r _ st' h
        rw [tot_app, List.length_append, List.length_singleton] at this
        omega
theorem end_ev_ (o : Option (List (List UInt8))) (hs : ∀ st, o = some st → (st.map List.length).sum + st.length ≤ 1000000) : Ev (fun k => rubricatorref12_Resolve.end_ k (o.map (fun l => l.map ba))) (bp (fin o)) := by
  cases o with
  | none => exact ev_val rfl
  | some st =>
    have hz := hs st rfl
    show Ev (fun k => if (rubricatorref12_Resolve.out (st.map ba) (⟨#[]⟩ : ByteArray)).size ≤ 1000000 then _ else none) _
    have ho : rubricatorref12_Resolve.out (st.map ba) (⟨#[]⟩ : ByteArray) = ba (outL st) := by
      have := out_L st []
      rw [List.nil_append] at this
      exact this
    rw [ho]
    refine ev_if (by rw [ba_size, outL_len]; exact hz) ?_
    have hi := ref_is_ev (ba (outL st)) (by rw [ba_size, outL_len]; exact hz)
    rw [data_ba] at hi
    refine Ev.bind hi (ev_val ?_)
    unfold fin
    cases st with
    | nil =>
      rw [isN_short (outL []) (by decide)]
      have : isN (nameOf []) = false := isN_short _ (by decide)
      simp only [this]
      rfl
    | cons p r =>
      rw [outL_name]
      simp only
      cases isN (nameOf (p :: r)) <;> rfl
theorem main_ev (L0 : List (List UInt8)) (x : ByteArray) (hx : x.size ≤ 1000) (hL : (L0.map List.length).sum + L0.length ≤ 10000) : Ev (fun k => rubricatorref12_Resolve.main k (L0.map ba, x)) (bp (fin (run L0 (pcs x.data.toList)))) := by
  unfold rubricatorref12_Resolve.main
  refine Ev.bind (cut_ev x (by omega)) ?_
  have hl := (pcsF_length x.data.toList []).1
  have hsum := pcsF_sum x.data.toList []
  rw [data_length] at hl hsum
  rw [List.length_nil, Nat.zero_add] at hsum
  refine ev_if ⟨?_, ?_⟩ ?_
  · unfold P pcs
    rw [List.length_map]
    omega
  · simp only [List.length_map]
    omega
  · show Ev (fun k => rubricatorref12_Resolve.end_ k (rubricatorref12_Resolve.steps (L0.map ba) (P x))) _
    unfold P
    rw [steps_run]
    refine end_ev_ _ (fun st hst => ?_)
    have := run_size _ _ _ hst
    unfold pcs at this
    omega
def ok2 (p : List UInt8) : Prop := p ≠ [46] ∧ p ≠ [46, 46]
theorem gd_ok {p : List UInt8} (h : Pcs.gd p = true) : ok2 p := by
  unfold Pcs.gd at h
  have := of_decide_eq_true h
  exact ⟨fun e => this.2 (by rw [e]; rfl), fun e => this.2 (by rw [e]; rfl)⟩
theorem run_front : ∀ (xs ys st : List (List UInt8)), (∀ p ∈ xs, ok2 p) → run st (xs ++ ys) = run (st ++ xs) ys
  | [], ys, st, _ => by rw [List.nil_append, List.append_nil]
  | p :: r, ys, st, h => by
    have hg := h p List.mem_cons_self
    rw [List.cons_append, run, if_neg hg.1, if_neg hg.2, run_front r ys _ (fun q hq => h q (List.mem_cons_of_mem _ hq)), List.append_assoc, List.singleton_append]
theorem pcsF_at : ∀ (x cur y : List UInt8), pcsF cur (x ++ 47 :: y) = pcsF cur x ++ pcs y
  | [], cur, y => by
    rw [List.nil_append]
    show (if (47 : UInt8) = 47 then cur :: pcsF [] y else pcsF (cur ++ [47]) y) = _
    rw [if_pos rfl]
    rfl
  | c :: x, cur, y => by
    rw [List.cons_append, pcsF, pcsF]
    split
    · rw [pcsF_at x [] y]; rfl
    · exact pcsF_at x (cur ++ [c]) y
theorem lastTo_at (l : List UInt8) (c : UInt8) : ∀ n, ∀ i : Nat, lastTo l c n = (i : Int) → l[i]? = some c
  | 0, i, h => by rw [lastTo] at h; omega
  | n + 1, i, h => by
    rw [lastTo] at h
    split at h
    · rename_i hc
      obtain rfl : n = i := by omega
      exact hc
    · exact lastTo_at l c n i h
theorem ref_res_ev (a b : ByteArray) (hs : a.size + b.size ≤ 1000) : Ev (fun k => rubricatorref12_Resolve.f k a b) (bp (resV a.data.toList b.data.toList)) := by
  unfold rubricatorref12_Resolve.f
  refine ev_if hs ?_
  have hok : Ev (fun k => rubricatorref12_Resolve.okF k a) (decide (¬ (a.data.toList ≠ [] ∧ isN a.data.toList = false))) := by
    unfold rubricatorref12_Resolve.okF
    rw [toList_ba]
    by_cases ha : a.data.toList = []
    · refine ev_if ha (ev_val ?_)
      rw [show decide (¬ (a.data.toList ≠ [] ∧ isN a.data.toList = false)) = true from decide_eq_true (fun hh => hh.1 ha)]
    · refine ev_else ha ?_
      have := ref_is_ev a (by omega)
      cases hn : isN a.data.toList with
      | true =>
        rw [hn] at this
        rw [show decide (¬ (a.data.toList ≠ [] ∧ true = false)) = true from decide_eq_true (fun hh => absurd hh.2 (by decide))]
        exact this
      | false =>
        rw [hn] at this
        rw [show decide (¬ (a.data.toList ≠ [] ∧ false = false)) = false from decide_eq_false (fun hh => hh ⟨ha, rfl⟩)]
        exact this
  refine Ev.bind hok ?_
  rw [toList_ba]
  unfold resV
  by_cases hbad : a.data.toList ≠ [] ∧ isN a.data.toList = false
  · rw [if_pos hbad, decide_eq_false (fun hh => hh hbad)]
    exact ev_if rfl (ev_val rfl)
  rw [if_neg hbad, decide_eq_true hbad]
  by_cases hb : b.data.toList = []
  · rw [if_pos hb, hb]
    exact ev_if rfl (ev_val rfl)
  rw [if_neg hb]
  have hbl : 0 < b.size := by rw [← data_length]; exact List.length_pos_iff.2 hb
  refine ev_else (by rw [beq_eq_false_iff_ne.mpr hb]; simp) ?_
  have hh := head_bt b hbl
  unfold rubricatorref12_Resolve.init allL
  by_cases h47 : b.data.toList.head? = some 47
  · rw [if_pos h47]
    rw [decide_eq_true h47] at hh
    have h1 : bt b 0 = 47 := by simpa using hh
    refine Ev.bind (ev_if h1 (ev_val rfl)) ?_
    have := main_ev [] (b.extract 1 b.size) (by rw [ByteArray.size_extract]; omega) (by simp)
    rw [ext1] at this
    exact this
  · rw [if_neg h47]
    rw [decide_eq_false h47] at hh
    have h1 : ¬ bt b 0 = 47 := by simpa using hh
    have hst := stroke_ev a (by omega)
    have hr := lastTo_range a.data.toList 47 a.data.toList.length
    have hlr : lastI a.data.toList 47 = lastTo a.data.toList 47 a.data.toList.length := rfl
    rw [← hlr, data_length] at hr
    by_cases ht : 0 < lastI a.data.toList 47
    · have hne : a.data.toList ≠ [] := by
        intro e
        rw [e] at ht
        revert ht
        decide
      have hn : isN a.data.toList = true := by
        cases hx : isN a.data.toList with
        | true => rfl
        | false => exact absurd ⟨hne, hx⟩ hbad
      obtain ⟨i, hi⟩ := Int.eq_ofNat_of_zero_le (show 0 ≤ lastI a.data.toList 47 by omega)
      rw [hi] at hst hr ht
      have hat : a.data.toList[i]? = some 47 := lastTo_at _ _ _ i (by rw [← hlr]; exact hi)
      obtain ⟨z, t, hzt⟩ : ∃ z t, a.data.toList = z :: t := by
        cases hx : a.data.toList with
        | nil => exact absurd hx hne
        | cons z t => exact ⟨z, t, rfl⟩
      obtain ⟨D, hD⟩ : ∃ D, dirL a.data.toList = z :: D := by
        unfold dirL
        rw [hi, Int.toNat_natCast, hzt]
        obtain ⟨i', rfl⟩ : ∃ i', i = i' + 1 := ⟨i - 1, by omega⟩
        exact ⟨_, rfl⟩
      have hdl : dirL a.data.toList = a.data.toList.take i := by unfold dirL; rw [hi, Int.toNat_natCast]
      have hsp : a.data.toList = a.data.toList.take i ++ 47 :: a.data.toList.drop (i + 1) := by
        have hil : i < a.data.toList.length := by rw [data_length]; omega
        have hd := List.drop_eq_getElem_cons hil
        rw [List.getElem?_eq_getElem hil] at hat
        rw [Option.some.inj hat] at hd
        rw [← hd, List.take_append_drop]
      have hg : ∀ p ∈ pcs D, ok2 p := by
        have h0 := hn
        unfold isN at h0
        rw [Bool.and_eq_true, Bool.and_eq_true] at h0
        have h2 := h0.2.1
        rw [hsp, ← hdl, hD, List.cons_append, List.drop_succ_cons, List.drop_zero] at h2
        unfold pcs at h2
        rw [pcsF_at, List.all_append, Bool.and_eq_true] at h2
        intro p hp
        exact gd_ok (List.all_eq_true.1 h2.1 p hp)
      have hex : (a.extract 1 i).data.toList = D := by
        rw [ext_ba, data_ba]
        have : (a.data.toList.take i).drop 1 = D := by rw [← hdl, hD]; rfl
        rw [List.drop_take] at this
        exact this
      have hcz : (a.extract 1 i).size ≤ 1000 := by rw [ByteArray.size_extract]; omega
      refine Ev.bind (ev_else h1 (Ev.bind hst (ev_if ht (ev_if (by omega) (Ev.bind (cut_ev (a.extract 1 ((i : Int)).toNat) (by rw [Int.toNat_natCast]; omega)) (ev_val rfl)))))) ?_
      rw [Int.toNat_natCast]
      have hPD : P (a.extract 1 i) = (pcs D).map ba := by unfold P; rw [hex]
      rw [hPD]
      have hDl : D.length ≤ 1000 := by
        have := congrArg List.length hex
        rw [data_length] at this
        omega
      have hs1 := pcsF_sum D []
      have hl1 := (pcsF_length D []).1
      have := main_ev (pcs D) b (by omega) (by unfold pcs; rw [List.length_nil] at hs1; omega)
      have e : ((dirL a.data.toList ++ [47]) ++ b.data.toList).drop 1 = D ++ 47 :: b.data.toList := by rw [hD]; simp
      rw [e]
      unfold pcs at this hg ⊢
      rw [pcsF_at, run_front _ _ _ hg, List.nil_append]
      exact this
    · refine Ev.bind (ev_else h1 (Ev.bind hst (ev_else ht (ev_val rfl)))) ?_
      have hd0 : dirL a.data.toList = [] := by
        unfold dirL
        rw [show (lastI a.data.toList 47).toNat = 0 by omega]
        rfl
      rw [hd0]
      have := main_ev [] b (by omega) (by simp)
      exact this
end Rs
theorem PartsResolves : rubricatorlaw12_PartsResolves.Pure := by
  intro a0 a1 _ _
  refine Ev.rounds ?_
  unfold rubricatorlaw12_PartsResolves.f
  have hw : wrap64 ((a0.size : Int) + (a1.size : Int)) = ((a0.size + a1.size : Nat) : Int) := by unfold wrap64; omega
  rw [hw]
  by_cases hb : ((a0.size + a1.size : Nat) : Int) > 1000
  · exact ev_if hb (ev_val rfl)
  refine ev_else hb (Ev.bind (res_ev a0 a1 (by omega)) (Ev.bind (Rs.ref_res_ev a0 a1 (by omega)) (ev_if rfl (ev_if (by simp) ?_))))
  obtain ⟨r, hr⟩ : ∃ r, resV a0.data.toList a1.data.toList = r := ⟨_, rfl⟩
  have hgood : r.2 = true → isN r.1 = true := by
    rw [← hr]
    unfold resV
    split
    · intro h; cases h
    · split
      · intro h; cases h
      · generalize run _ _ = o
        cases o with
        | none => intro h; cases h
        | some st =>
          unfold fin
          simp only
          split
          · rename_i h
            intro _
            exact h
          · intro h; cases h
  have hlen : r.2 = true → r.1.length ≤ 200 := by
    intro h
    have h0 := hgood h
    unfold isN at h0
    rw [Bool.and_eq_true] at h0
    exact (of_decide_eq_true h0.1).2.1
  rw [hr]
  obtain ⟨x, c⟩ := r
  cases c with
  | true =>
    have hi := is_ev (ba x) (by rw [ba_size]; have := hlen rfl; simp only at this; omega)
    rw [data_ba, hgood rfl] at hi
    exact ev_if rfl (Ev.bind hi (ev_if rfl (Rs.kn5 _ fun _ => rfl)))
  | false => exact ev_else (by simp [bp]) (Rs.kn5 _ fun _ => rfl)
end Go.Proofs.YtdooaaefldjinaaDoor.Pure
