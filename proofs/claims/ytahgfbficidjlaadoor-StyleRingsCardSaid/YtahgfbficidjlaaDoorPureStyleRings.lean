/- Styles that come back to themselves, after however many, can't be, and say nothing. No conditions. -/
import Derived.Test.YtahgfbficidjlaaDoorPAx8
import Derived.Test.YtahgfbficidjlaaDoorKnown
namespace Go.Proofs.YtahgfbficidjlaaDoor.Pure
open Go.RowKit Go.Proofs.YtahgfbficidjlaaDoor.PA Go.Proofs.YtahgfbficidjlaaDoorW.PrintWords Go.Proofs.YtahgfbficidjlaaDoorW.PrintLast Go.Proofs.YtahgfbficidjlaaDoorAid Go.Proofs.YtahgfbficidjlaaDoorChain Go.Proofs.YtahgfbficidjlaaDoor.Sty Go.Proofs.YtahgfbficidjlaaDoor.Say Go.Proofs.YtahgfbficidjlaaDoor.Known
set_option linter.unusedVariables false
set_option linter.unusedSimpArgs false

/-- the letter of a place -/
def C (k : Nat) : ByteArray := strOfNums [(wrap64 (97 + (k : Int))) % 256]
theorem C_inj_all : ∀ i : Fin 26, ∀ j : Fin 26, (C i.val).data.toList = (C j.val).data.toList → i.val = j.val := by decide +kernel
theorem C_ne_all : ∀ i : Fin 26, ¬ (C i.val).data.toList = [] := by decide +kernel
theorem C_inj {i j : Nat} (hi : i < 26) (hj : j < 26) (h : C i = C j) : i = j := C_inj_all ⟨i, hi⟩ ⟨j, hj⟩ (by rw [h])
theorem C_ne {i : Nat} (hi : i < 26) : ¬ (C i).data.toList = [] := C_ne_all ⟨i, hi⟩
theorem C_size (i : Nat) : (C i).size = 1 := by unfold C; rw [strOfNums_size]; rfl
/-- the styles of a chain whose last one is based on something -/
def S (n : Nat) (z : ByteArray) (k : Nat) : S35 := ⟨C k, if k + 1 < n then C (k + 1) else z, false, 1, 0, 1⟩
def L (n : Nat) (z : ByteArray) (j : Nat) : List S35 := (List.range j).map (S n z)
theorem L_len (n : Nat) (z : ByteArray) (j : Nat) : (L n z j).length = j := by unfold L; rw [List.length_map, List.length_range]
theorem X_L (n : Nat) (z : ByteArray) (j k : Nat) (h : k < j) : X (L n z j) k = S n z k := by
  unfold X L
  rw [List.getD_eq_getElem?_getD, List.getElem?_map, List.getElem?_range h]
  rfl
theorem L_next (n : Nat) (z : ByteArray) (j : Nat) : L n z j ++ [S n z j] = L n z (j + 1) := by
  unfold L
  rw [List.range_succ, List.map_append]
  rfl
theorem L_dist {n : Nat} (z : ByteArray) (hn : n ≤ 25) : ∀ i j, i < (L n z n).length → j < (L n z n).length → (X (L n z n) i).f0 = (X (L n z n) j).f0 → i = j := by
  intro i j hi hj e
  rw [L_len] at hi hj
  rw [X_L _ _ _ _ hi, X_L _ _ _ _ hj] at e
  exact C_inj (by omega) (by omega) e
theorem S_ok (n : Nat) (z : ByteArray) {k : Nat} (hk : k < 26) : okS (S n z k) = true := by
  have h := C_ne hk
  have h2 : (C k).data.toList.isEmpty = false := by
    cases hc : (C k).data.toList with
    | nil => exact absurd hc h
    | cons a b => rfl
  show (!(C k).data.toList.isEmpty && _) = true
  rw [h2]
  rfl
theorem L_small {n : Nat} (z : ByteArray) (hn : n ≤ 25) (hz : z.size ≤ 1) : Small (L n z n) := by
  refine ⟨by rw [L_len]; omega, fun s hs => ?_⟩
  unfold L at hs
  rw [List.mem_map] at hs
  obtain ⟨k, hk, rfl⟩ := hs
  refine ⟨by show (C k).size ≤ _; rw [C_size]; omega, ?_⟩
  show (if k + 1 < n then C (k + 1) else z).size ≤ _
  split
  · rw [C_size]; omega
  · omega
theorem L_res {n : Nat} (hn : n ≤ 25) : style_Check.res (L n (ba []) n) = (-1, 0) := by
  refine nice_res (fun k => n - k) (fun i hi => ?_) (L_dist _ hn) (fun i hi => ?_)
  · rw [L_len] at hi
    rw [X_L _ _ _ _ hi]
    exact S_ok _ _ (by omega)
  · rw [L_len] at hi
    rw [X_L _ _ _ _ hi]
    by_cases h : i + 1 < n
    · refine .inr ⟨i + 1, by rw [L_len]; exact h, ?_, by show n - (i + 1) < n - i; omega, by rw [X_L _ _ _ _ h]; rfl⟩
      rw [X_L _ _ _ _ h]
      show C (i + 1) = if i + 1 < n then C (i + 1) else ba []
      rw [if_pos h]
    · refine .inl ?_
      show (if i + 1 < n then C (i + 1) else ba []).data.toList = []
      rw [if_neg h]
      rfl
theorem ix_L {n : Nat} (z : ByteArray) (hn : n ≤ 25) {k : Nat} (hk : k < n) : style_find.ix (C k) (L n z n) = some k := by
  refine ix_of (by rw [L_len]; exact hk) (by rw [X_L _ _ _ _ hk]; rfl) (fun j hj e => ?_)
  have := L_dist z hn j k (by rw [L_len]; omega) (by rw [L_len]; exact hk) (by rw [e, X_L _ _ _ _ hk]; rfl)
  omega
theorem say_one {n : Nat} (z : ByteArray) (hn : n ≤ 25) {k : Nat} (hk : k < n) (what : S35 → Int) (h : what (S n z k) = 1) : sayV (L n z n) what (C k) false = 1 := by
  unfold sayV
  rw [if_neg (fun e => C_ne (by omega) (tl_nil.1 e)), ix_L z hn hk]
  show (if ((X (L n z n) k).f2 != false) = true then 0 else sV (L n z n) what (L n z n).length k) = 1
  rw [X_L _ _ _ _ hk, if_neg (by show ¬ (false != false) = true; decide), L_len]
  obtain ⟨m, rfl⟩ : ∃ m, n = m + 1 := ⟨n - 1, by omega⟩
  rw [sV, sG, X_L _ _ _ _ hk, h]
  rfl
theorem say_nought (l : List S35) (what : S35 → Int) (h : ∀ k, what (X l k) = 0) (id : ByteArray) (r : Bool) : sayV l what id r = 0 := by
  unfold sayV
  split
  · rfl
  · cases style_find.ix id l with
    | none => rfl
    | some k =>
      show (if ((X l k).f2 != r) = true then 0 else sV l what l.length k) = 0
      split
      · rfl
      · exact sG_zero h _ _
theorem say_empty (l : List S35) (what : S35 → Int) (r : Bool) : sayV l what (ba []) r = 0 := if_pos (tl_nil.2 rfl)
theorem L_run {n : Nat} (hn : n ≤ 25) {k : Nat} (hk : k < n) : runV (L n (ba []) n) (C k) (ba []) 0 0 = 1 := by
  unfold runV tog
  rw [L_res hn, say_one _ hn hk _ rfl, say_empty, say_nought _ _ (fun j => ?_), say_empty]
  · rfl
  · by_cases hj : j < n
    · rw [X_L _ _ _ _ hj]; rfl
    · rw [X_over (by rw [L_len]; omega)]; rfl
theorem L_level {n : Nat} (hn : n ≤ 25) {k : Nat} (hk : k < n) : lvl (L n (ba []) n) (C k) = 1 := by
  unfold lvl
  rw [L_res hn, if_pos rfl, say_one _ hn hk _ rfl]
/-! ### the ring -/
theorem nx_up {n ring : Nat} (hn : n ≤ 25) (hr : ring < n) {k : Nat} (hk : k + 1 < n) : nx (L n (C ring) n) k = some (k + 1) := by
  have hf : (X (L n (C ring) n) k).f1 = C (k + 1) := by
    rw [X_L _ _ _ _ (by omega)]
    exact if_pos hk
  refine nx_of (L_dist _ hn) (by rw [hf]; exact C_ne (by omega)) (by rw [L_len]; exact hk) ?_
  rw [hf, X_L _ _ _ _ hk]
  rfl
theorem nx_last {n ring : Nat} (hn : n ≤ 25) (hr : ring < n) : nx (L n (C ring) n) (n - 1) = some ring := by
  have hf : (X (L n (C ring) n) (n - 1)).f1 = C ring := by
    rw [X_L _ _ _ _ (by omega)]
    exact if_neg (by omega)
  refine nx_of (L_dist _ hn) (by rw [hf]; exact C_ne (by omega)) (by rw [L_len]; exact hr) ?_
  rw [hf, X_L _ _ _ _ hr]
  rfl
theorem it_up {n ring : Nat} (hn : n ≤ 25) (hr : ring < n) : ∀ t, ring + t < n → it (nx (L n (C ring) n)) t ring = some (ring + t)
  | 0, _ => rfl
  | t + 1, h => by
    rw [it_add, it_up hn hr t (by omega)]
    show it (nx (L n (C ring) n)) 1 (ring + t) = _
    rw [it_one, nx_up hn hr (by omega)]
    rfl
theorem ring_bad {n ring : Nat} (hn : n ≤ 25) (hr : ring < n) : gB (bad (L n (C ring) n) ring) (nx (L n (C ring) n)) n ring = true := by
  rw [gB_iff]
  refine ⟨n - 1 - ring, by omega, n - 1, ring, ?_, nx_last hn hr, ?_⟩
  · rw [it_up hn hr _ (by omega), show ring + (n - 1 - ring) = n - 1 by omega]
  · unfold bad
    rw [beq_self_eq_true, Bool.or_true]
theorem f2_none {n ring : Nat} (hn : n ≤ 25) (hr : ring < n) (k : Nat) : (X (L n (C ring) n) k).f2 = false := by
  by_cases hk : k < n
  · rw [X_L _ _ _ _ hk]; rfl
  · rw [X_over (by rw [L_len]; omega)]; rfl
theorem below_fine {n ring : Nat} (hn : n ≤ 25) (hr : ring < n) {i : Nat} (hi : i < ring) : gB (bad (L n (C ring) n) i) (nx (L n (C ring) n)) n i = false := by
  refine Bool.eq_false_iff.2 (fun h => ?_)
  obtain ⟨t, _, a, m, h1, h2, h3⟩ := (gB_iff _ _ _ _).1 h
  have up : ∀ a m, i ≤ a → nx (L n (C ring) n) a = some m → i < m := by
    intro a m ha h
    by_cases h4 : a + 1 < n
    · rw [nx_up hn hr h4] at h
      have := Option.some.inj h
      omega
    · by_cases h5 : a = n - 1
      · rw [h5, nx_last hn hr] at h
        have := Option.some.inj h
        omega
      · rw [nx_over (by rw [L_len]; omega)] at h
        cases h
  have hle : ∀ (t x y : Nat), i ≤ x → it (nx (L n (C ring) n)) t x = some y → i ≤ y := by
    intro t
    induction t with
    | zero => intro x y hx e; cases e; exact hx
    | succ t ih =>
      intro x y hx e
      replace e : (nx (L n (C ring) n) x).bind (it (nx (L n (C ring) n)) t) = some y := e
      cases hz : nx (L n (C ring) n) x with
      | none => rw [hz] at e; cases e
      | some z =>
        rw [hz] at e
        have := up x z hx hz
        exact ih z y (by omega) e
  have h5 := up a m (hle t i a (Nat.le_refl _) h1) h2
  unfold bad at h3
  rw [f2_none hn hr, f2_none hn hr, show (false != false) = false from rfl, Bool.and_false, Bool.false_or, beq_iff_eq] at h3
  omega
theorem ring_res {n ring : Nat} (hn : n ≤ 25) (hr : ring < n) : style_Check.res (L n (C ring) n) = ((ring : Int), 16) := by
  have hl := L_len n (C ring) n
  have hD : Dist (L n (C ring) n) := fun i hi => by
    rw [L_len] at hi
    rw [X_L _ _ _ _ hi]
    exact ix_L _ hn hi
  have hF : Based (L n (C ring) n) := fun k hk _ => by
    rw [L_len] at hk
    by_cases h : k + 1 < n
    · have h2 := nx_up hn hr h
      unfold nx at h2
      split at h2
      · cases h2
      · exact ⟨_, h2⟩
    · have h2 := nx_last hn hr
      rw [show n - 1 = k by omega] at h2
      unfold nx at h2
      split at h2
      · cases h2
      · exact ⟨_, h2⟩
  rw [res_eq, none_first (style_Check.q1 (L n (C ring) n)), none_first (style_Check.q2 (L n (C ring) n)), first_at (style_Check.q3 (L n (C ring) n)) ((ring : Int), 16) _ _ ring (Nat.zero_le _)]
  · rfl
  · rw [hl]; omega
  · intro j _ hj
    rw [q3_eq hD (by rw [hl]; omega), hl, below_fine hn hr hj]
    rfl
  · rw [q3_eq hD (by rw [hl]; exact hr), hl, ring_bad hn hr]
    rfl
  · intro j _ hj
    exact q2_none.2 (hF j (by omega))
  · intro j _ hj
    rw [hl] at hj
    unfold style_Check.q1
    have h1 : style_Check.alone ((L n (C ring) n).getD j z35) = false := by
      show style_Check.alone (X (L n (C ring) n) j) = false
      rw [X_L _ _ _ _ (by omega)]
      exact alone_ok (S_ok _ _ (by omega))
    rw [h1, if_neg (by simp), if_neg]
    intro hp
    obtain ⟨m, hm, e⟩ := (ids_pos (L n (C ring) n) _ j).1 hp
    have := L_dist (C ring) hn m j (by rw [hl]; omega) (by rw [hl]; omega) e
    omega
theorem set_last {n : Nat} (z : ByteArray) (hn : 0 < n) : (L n (ba []) n).set (n - 1) ⟨C (n - 1), z, false, 1, 0, 1⟩ = L n z n := by
  refine List.ext_getElem? (fun k => ?_)
  rw [List.getElem?_set]
  unfold L
  rw [List.getElem?_map, List.getElem?_map, List.length_map, List.length_range]
  by_cases hk : k < n
  · rw [List.getElem?_range hk]
    by_cases h : n - 1 = k
    · rw [if_pos h, if_pos (by omega), h]
      show some _ = some (S n z k)
      unfold S
      rw [if_neg (by omega)]
    · rw [if_neg h]
      show some (S n (ba []) k) = some (S n z k)
      unfold S
      rw [if_pos (by omega), if_pos (by omega)]
  · rw [List.getElem?_eq_none (by rw [List.length_range]; omega), if_neg (by omega)]
    rfl
theorem ring_j2 {n ring at_ : Nat} (hn : n ≤ 25) (hr : ring < n) (ha : at_ < n) : Ev (fun k => rubricatorlaw14_StyleRings.j2 k (n : Int) (ring : Int) (at_ : Int) (L n (ba []) n) true) true := by
  refine ev_succ ?_
  simp only [rubricatorlaw14_StyleRings.j2]
  have e1 : wrap64 ((n : Int) - 1) = ((n - 1 : Nat) : Int) := by unfold wrap64; omega
  rw [e1]
  simp only [rd_X, Int.toNat_natCast]
  rw [X_L _ _ _ _ (by omega : n - 1 < n), X_L _ _ _ _ hr, L_len]
  refine ev_if (by omega) (ev_if (by omega) (ev_if (by omega) (ev_if (by omega) ?_)))
  have e2 : (L n (ba []) n).set (n - 1) (⟨(S n (ba []) (n - 1)).f0, (S n (ba []) ring).f0, (S n (ba []) (n - 1)).f2, (S n (ba []) (n - 1)).f3, (S n (ba []) (n - 1)).f4, (S n (ba []) (n - 1)).f5⟩ : S35) = L n (C ring) n := set_last (C ring) (by omega)
  rw [e2]
  have hs := L_small (C ring) hn (by rw [C_size]; omega)
  have hf : ∀ (g : List S35 → Nat → Option Bool) (h : Ev (g (L n (C ring) n)) true), Ev (fun k => (some (L n (C ring) n)).bind fun y => g y k) true := fun g h => h
  refine ev_some ?_
  refine Ev.bind (ev_const (check_f hs)) ?_
  rw [ring_res hn hr]
  refine ev_if (by first | rfl | trivial) (ev_if rfl (ev_if rfl (ev_if (by omega) (ev_if (by omega) ?_))))
  rw [X_L _ _ _ _ ha]
  have h1 : runV (L n (C ring) n) (C at_) (ba []) 0 0 = 0 := by
    unfold runV
    rw [ring_res hn hr]
    rfl
  have h2 : lvl (L n (C ring) n) (C at_) = 0 := by
    unfold lvl
    rw [ring_res hn hr]
    rfl
  exact Ev.bind (ev_const (run_f hs (C at_) (ba []) 0 0)) (ev_if h1 (Ev.bind (ev_const (level_f hs (C at_))) (ev_if h2 (kn _ fun _ => rfl))))
theorem ring_l0 {n ring at_ : Nat} (hn0 : 0 < n) (hn : n ≤ 25) (hr : ring < n) (ha : at_ < n) : ∀ d j, j + d = n → Ev (fun k => rubricatorlaw14_StyleRings.l0 k (n : Int) (ring : Int) (at_ : Int) (L n (ba []) j) (j : Int)) true := by
  intro d
  induction d with
  | zero =>
    intro j hj
    obtain rfl : j = n := by omega
    refine ev_succ ?_
    simp only [rubricatorlaw14_StyleRings.l0]
    have hs := L_small (ba []) hn (by decide)
    refine ev_else (by omega) (Ev.bind (ev_const (check_f hs)) ?_)
    rw [L_res hn]
    refine ev_if rfl (ev_if rfl (ev_if (by omega) (ev_if (by rw [L_len]; omega) ?_)))
    simp only [rd_X]
    rw [X_L _ _ _ _ ha]
    refine Ev.bind (ev_const (run_f hs (C at_) (ba []) 0 0)) (ev_if (L_run hn ha) (Ev.bind (ev_const (level_f hs (C at_))) ?_))
    rw [L_level hn ha]
    exact ring_j2 hn hr ha
  | succ d ih =>
    intro j hj
    refine ev_succ ?_
    simp only [rubricatorlaw14_StyleRings.l0]
    have e1 : wrap64 ((j : Int) + 1) = ((j + 1 : Nat) : Int) := by unfold wrap64; omega
    have e2 : wrap64 (wrap64 (97 + (j : Int)) + 1) = wrap64 (97 + ((j + 1 : Nat) : Int)) := by unfold wrap64; omega
    rw [e1, e2]
    refine ev_if (by omega) (ev_some ?_)
    have h := ih (j + 1) (by omega)
    rw [← L_next] at h
    unfold S at h
    by_cases h2 : j + 1 < n
    · rw [if_pos h2] at h
      exact ev_if (by omega) (ev_if (by rw [L_len]; omega) h)
    · rw [if_neg h2] at h
      exact ev_else (by omega) (ev_if (by rw [L_len]; omega) h)
theorem StyleRings : rubricatorlaw14_StyleRings.Pure := by
  intro n ring at_ _ _ _
  refine Ev.rounds (?_ : Ev (fun k => rubricatorlaw14_StyleRings.f k n ring at_) true)
  unfold rubricatorlaw14_StyleRings.f
  have h1 : Ev (fun k => rubricatorlaw14_StyleRings.j0 k n ring at_ true) true := by
    refine ev_succ ?_
    simp only [rubricatorlaw14_StyleRings.j0]
    exact ev_if (by first | rfl | trivial) (kn _ fun _ => rfl)
  by_cases c0 : n < 1
  · exact ev_if c0 h1
  refine ev_else c0 ?_
  by_cases c1 : n > 25
  · exact ev_if c1 h1
  refine ev_else c1 ?_
  by_cases c2 : ring < 0
  · exact ev_if c2 h1
  refine ev_else c2 ?_
  by_cases c3 : ring ≥ n
  · exact ev_if c3 h1
  refine ev_else c3 ?_
  by_cases c4 : at_ < 0
  · exact ev_if c4 h1
  refine ev_else c4 ?_
  by_cases c5 : at_ ≥ n
  · rw [decide_eq_true c5]
    exact h1
  rw [decide_eq_false c5]
  obtain ⟨n, rfl⟩ := Int.eq_ofNat_of_zero_le (by omega : 0 ≤ n)
  obtain ⟨ring, rfl⟩ := Int.eq_ofNat_of_zero_le (by omega : 0 ≤ ring)
  obtain ⟨at_, rfl⟩ := Int.eq_ofNat_of_zero_le (by omega : 0 ≤ at_)
  refine ev_succ ?_
  simp only [rubricatorlaw14_StyleRings.j0]
  refine ev_else (by simp) ?_
  exact ring_l0 (by omega) (by omega) (by omega) (by omega) n 0 (by omega)
end Go.Proofs.YtahgfbficidjlaaDoor.Pure
