/- What rubricatorref3.New and huff.New make of any lengths, or refuse. No conditions beside those that each theorem says. -/
import Derived.Test.YtachnclfgjdglaaRef
namespace Go.Proofs.Ytachnclfgjdglaa.PA
open Go.Proofs.YtachnclfgjdglaaAid Go.Proofs.Ytachnclfgjdglaa.Coin Go.Proofs.Ytachnclfgjdglaa.Known Go.Proofs.Ytachnclfgjdglaa.Next Go.RowKit Go.Proofs.YtachnclfgjdglaaW.PrintWords Go.Proofs.YtachnclfgjdglaaW.PrintLast Go.Proofs.YtachnclfgjdglaaW.PrintMore
attribute [local go_sem] max2_int min2_int max_two min_two max_three min_three max_four min_four   -- for this text's walks alone
set_option linter.unusedVariables false
set_option linter.unusedSimpArgs false
/-- the last length that is one -/
def onlyP (l : List Int) : Nat → Int
  | 0 => 0
  | k + 1 => if l.getD k 0 > 0 then l.getD k 0 else onlyP l k
theorem only_fill {l : List Int} (h : isL l = true) : ∀ k, k ≤ l.length → ((fillP l k).2 = 0 → (fillP l k).1 = 0) ∧ ((fillP l k).2 = 1 → 0 < onlyP l k ∧ onlyP l k ≤ 15 ∧ (fillP l k).1 = 2 ^ (15 - onlyP l k).toNat)
  | 0, _ => ⟨fun _ => rfl, fun h => by cases h⟩
  | k + 1, hk => by
    obtain ⟨i1, i2⟩ := only_fill h k (by omega)
    have hs := fillP_small h k (by omega)
    have ha := isL_at h k (by omega)
    rw [fillP, onlyP]
    generalize l.getD k 0 = x at ha ⊢
    by_cases hx : x > 0
    · rw [if_pos hx, if_pos hx]
      refine ⟨fun e => ?_, fun e => ?_⟩
      · simp only at e; omega
      · simp only at e
        rw [i1 (by omega)]
        exact ⟨hx, ha.2, by simp⟩
    · rw [if_neg hx, if_neg hx]
      exact ⟨i1, i2⟩
theorem may_doc {l : List Int} (h : isL l = true) : mayD l = true ↔ ¬ ((fillP l l.length).1 ≠ 32768 ∧ (fillP l l.length).2 ≠ 0 ∧ ((fillP l l.length).2 ≠ 1 ∨ onlyP l l.length ≠ 1)) := by
  obtain ⟨i1, i2⟩ := only_fill h l.length (Nat.le_refl _)
  have hs := fillP_small h l.length (Nat.le_refl _)
  unfold mayD
  generalize fillP l l.length = p at i1 i2 hs ⊢
  generalize onlyP l l.length = o at i2 ⊢
  have hp : p.2 = 1 → (p.1 = 16384 ↔ o = 1) := fun e => by
    obtain ⟨o0, o15, ef⟩ := i2 e
    have key : ∀ n : Fin 16, 0 < n.val → ((2 : Int) ^ (15 - n.val) = 16384 ↔ n.val = 1) := by decide +kernel
    have := key ⟨o.toNat, by omega⟩ (by simp only; omega)
    simp only at this
    rw [ef, show (15 - o).toNat = 15 - o.toNat by omega, this]
    omega
  simp only [Bool.or_eq_true, Bool.and_eq_true, decide_eq_true_eq]
  constructor
  · rintro (h1 | h1 | ⟨h1, h2⟩) ⟨n1, n2, n3⟩
    · exact n1 h1
    · omega
    · have e1 : p.2 = 1 := by omega
      have := (hp e1).1 h2
      omega
  · intro hn
    by_cases h1 : p.1 = 32768
    · exact .inl h1
    · by_cases h2 : p.2 = 0
      · exact .inr (.inl (by omega))
      · by_cases h3 : p.2 = 1
        · by_cases h4 : o = 1
          · exact .inr (.inr ⟨by omega, (hp h3).2 h4⟩)
          · exact absurd ⟨h1, h2, .inr h4⟩ hn
        · exact absurd ⟨h1, h2, .inl h3⟩ hn
set_option maxHeartbeats 4000000 in
set_option maxRecDepth 100000 in
theorem new_no (A : Option Addr) (c : Nat) (l : List Int) (w : World) (hr : Kd.C (Kd.int .i64) w A l.length l) (hl : isL l = true) (hm : mayD l = false) :
    Calls Try.prog 23 #[.slice A l.length c] w fun e w' => e = .returned (.tuple #[.pointer none, .int .i64 21]) ∧ w' = w := by
  have h1 := are A c l w hr
  rw [hl] at h1
  have hfill := fill A c l w hr hl
  have hs := fillP_small hl l.length (Nat.le_refl _)
  unfold mayD at hm
  generalize fillP l l.length = p at hfill hm hs
  have d1 : (p.1 != 32768) = true := by
    by_cases e : p.1 = 32768
    · rw [e] at hm; simp at hm
    · simpa using e
  have d2 : decide (p.2 > 0) = true := by
    by_cases e : p.2 ≤ 0
    · simp [e] at hm
    · exact decide_eq_true (by omega)
  generalize l.length = n at h1 hfill ⊢
  by_cases e2 : p.2 > 1
  · have d3 : decide (p.2 > 1) = true := decide_eq_true e2
    clear hr hl hm hs e2
    go_enter Try.func23, Try.ntmps23
    go_wp2_with (first | (go_at_call 27; refine h1.mono ?_; rintro e w' ⟨rfl, hw'⟩; subst w') | (go_at_call 28; refine hfill.mono ?_; rintro e w' ⟨rfl, hw'⟩; subst w'))
    go_ret2
    exact ⟨rfl, rfl⟩
  · have d3 : decide (p.2 > 1) = false := decide_eq_false e2
    have d4 : (p.1 != 16384) = true := by
      by_cases e : p.1 = 16384
      · rw [e] at hm
        simp at hm
        omega
      · simpa using e
    clear hr hl hm hs e2
    go_enter Try.func23, Try.ntmps23
    go_wp2_with (first | (go_at_call 27; refine h1.mono ?_; rintro e w' ⟨rfl, hw'⟩; subst w') | (go_at_call 28; refine hfill.mono ?_; rintro e w' ⟨rfl, hw'⟩; subst w'))
    go_ret2
    exact ⟨rfl, rfl⟩
set_option maxHeartbeats 4000000 in
set_option maxRecDepth 100000 in
theorem refNew_bad (A : Option Addr) (c : Nat) (l : List Int) (w : World) (hr : Kd.C (Kd.int .i64) w A l.length l) (hc : l.length ≤ c) (hl : isL l = false) :
    Calls Try.prog 24 #[.slice A l.length c] w fun e w' => e = .returned (.tuple #[.pointer none, .int .i64 1]) ∧ Below w.heap.size w w' := by
  have HR := Aside0.mk hr
  have HC := Aside0.mk hc
  obtain ⟨ki, hki⟩ := (is_ev l).rounds
  have HIS := Aside0.mk hki
  rw [hl] at hki
  have HIS := Aside0.mk hki
  clear hki hl hr hc
  go_enter Try.func24, Try.ntmps24
  go_wp2_with (first | ((with_reducible refine gate_callee (f := 30) rfl ?_); refine goesL_ (some 10) rfl rfl Try.func30 (by kernel_rfl) rfl #[.slice A l.length c] rfl (by (try simp only [List.map_toArray, List.map_cons, List.map_nil]); first | done | rfl) ?_; refine (rubricatorref3_Is.calls ki A c l _ _ HR.out HC.out HIS.out).mono ?_; rintro e w1 ⟨rfl, hd⟩; refine ⟨_, rfl, ?_⟩; have HD0 := Aside0.mk hd; clear hd))
  go_ret2
  exact ⟨rfl, HD0.out.below⟩
set_option maxHeartbeats 4000000 in
set_option maxRecDepth 100000 in
theorem refNew_no (A : Option Addr) (c : Nat) (l : List Int) (w : World) (hr : Kd.C (Kd.int .i64) w A l.length l) (hc : l.length ≤ c) (hl : isL l = true) (hm : mayD l = false) :
    Calls Try.prog 24 #[.slice A l.length c] w fun e w' => e = .returned (.tuple #[.pointer none, .int .i64 21]) ∧ Below w.heap.size w w' := by
  have HR := Aside0.mk hr
  have HC := Aside0.mk hc
  obtain ⟨ki, hki⟩ := (is_ev l).rounds
  have HIS := Aside0.mk hki
  rw [hl] at hki
  have HIS := Aside0.mk hki
  have HL := Aside0.mk hl
  have HN := Aside0.mk (isL_len hl)
  obtain ⟨kf, hkf⟩ := (fill_ev l hl).rounds
  have HFL := Aside0.mk hkf
  have HM := Aside0.mk ((may_doc hl))
  have HMM := Aside0.mk hm
  clear hki hkf hl hr hc hm
  go_enter Try.func24, Try.ntmps24
  go_wp2_with (first | ((with_reducible refine gate_callee (f := 30) rfl ?_); refine goesL_ (some 10) rfl rfl Try.func30 (by kernel_rfl) rfl #[.slice A l.length c] rfl (by (try simp only [List.map_toArray, List.map_cons, List.map_nil]); first | done | rfl) ?_; refine (rubricatorref3_Is.calls ki A c l _ _ HR.out HC.out HIS.out).mono ?_; rintro e w1 ⟨rfl, hd⟩; refine ⟨_, rfl, ?_⟩; have HD0 := Aside0.mk hd; clear hd))
  go_loopg [4, 5, 6] l.length (fun gg v4 v5 v6 wr => ∃ k : Nat, k ≤ l.length ∧ l.length - k ≤ gg ∧ v4 = .int .i64 (fillP l k).2 ∧ v5 = .int .i64 (onlyP l k) ∧ v6 = .int .i64 k ∧ Aside0 (Drawn0 w wr))
  case atStart => exact ⟨0, by omega, by omega, rfl, rfl, rfl, HD0⟩
  case round =>
    obtain ⟨k, hk, hgg, rfl, rfl, rfl, HD⟩ := hrel
    by_cases hlt : k < l.length
    case pos =>
      have hd1 : decide ((k : Int) < (l.length : Int)) = true := decide_eq_true (by omega)
      have hkz : (k : Int) < (l.length : Int) := by omega
      obtain ⟨ad, e, hcell0⟩ := at_i HR.out k hlt
      cases e
      have hcell := (HD.out.below.cell (World.block_lt_of_cell? w _ hcell0)).trans hcell0
      have hs := fillP_small HL.out k hk
      have h2 : (fillP l (k + 1)).2 = if l.getD k 0 > 0 then (fillP l k).2 + 1 else (fillP l k).2 := by
        rw [fillP]
        split <;> rfl
      have h3 : onlyP l (k + 1) = if l.getD k 0 > 0 then l.getD k 0 else onlyP l k := rfl
      have hw2 : wrap64 ((k : Int) + 1) = ((k + 1 : Nat) : Int) := w64 (x := (k : Int) + 1) (by omega) (by have := HN.out; omega)
      have hw3 : wrap64 ((fillP l k).2 + 1) = (fillP l k).2 + 1 := w64 (by omega) (by have := HN.out; clear hw2; omega)
      have HK := Aside0.mk (And.intro hlt hgg)
      generalize l.getD k 0 = x at hcell h2 h3
      generalize (fillP l k).2 = mm at h2 hw3
      generalize onlyP l k = oo at h3
      have HW := Aside0.mk (And.intro hw2 (And.intro hw3 (And.intro h2 h3)))
      clear hcell0 hs hk hgg hlt hw2 hw3 h2 h3
      by_cases hx : x > 0
      · have dx : decide (x > 0) = true := decide_eq_true hx
        go_wp2
        go_roundg (l.length - (k + 1))
        case rel =>
          obtain ⟨z1, z2, z3, z4⟩ := HW.out
          rw [if_pos (show x > 0 by clear z1 z2; omega)] at z3 z4
          exact ⟨k + 1, by have := HK.out; clear z1 z2; omega, Nat.le_refl _, by rw [z2, z3], by rw [z4], by first | rfl | rw [z1], HD⟩
        case measure => have := HK.out; omega
      · have dx : decide (x > 0) = false := decide_eq_false hx
        go_wp2
        go_roundg (l.length - (k + 1))
        case rel =>
          obtain ⟨z1, z2, z3, z4⟩ := HW.out
          rw [if_neg (show ¬ x > 0 by clear z1 z2; omega)] at z3 z4
          exact ⟨k + 1, by have := HK.out; clear z1 z2; omega, Nat.le_refl _, by rw [z3], by rw [z4], by first | rfl | rw [z1], HD⟩
        case measure => have := HK.out; omega
    case neg =>
      have hke : k = l.length := by omega
      subst hke
      have hd1 : decide ((l.length : Int) < (l.length : Int)) = false := decide_eq_false (by omega)
      clear hk hgg hlt HD0
      have hmd : ¬ ¬ ((fillP l l.length).1 ≠ 32768 ∧ (fillP l l.length).2 ≠ 0 ∧ ((fillP l l.length).2 ≠ 1 ∨ onlyP l l.length ≠ 1)) := fun h => by
        have := HM.out.2 h
        rw [HMM.out] at this
        cases this
      have hmd := Classical.not_not.1 hmd
      have HFL := HFL
      generalize (fillP l l.length) = p at HFL hmd
      generalize onlyP l l.length = oo at hmd
      obtain ⟨n1, n2, n3⟩ := hmd
      have d1 : (p.1 != 32768) = true := by simpa using n1
      have d2 : (p.2 != 0) = true := by simpa using n2
      by_cases e3 : p.2 = 1
      · have d3 : (p.2 != 1) = false := by simp [e3]
        have d4 : (oo != 1) = true := by
          rcases n3 with n3 | n3
          · exact absurd e3 n3
          · simpa using n3
        clear n1 n2 n3 e3
        go_wp2_with (first | ((with_reducible refine gate_callee (f := 19) rfl ?_); refine goesL_ (some 30) rfl rfl Try.func19 (by kernel_rfl) rfl #[.slice A l.length c] rfl (by (try simp only [List.map_toArray, List.map_cons, List.map_nil]); first | done | rfl) ?_; refine (rubricatorref3_Fill.calls kf A c l _ _ (Kd.C_below HR.out HD.out.below) HC.out HFL.out).mono ?_; rintro e w2 ⟨rfl, hd⟩; refine ⟨_, rfl, ?_⟩; have HD2 := Aside0.mk (below_step HD.out.below hd.below); clear hd))
        go_ret2
        exact ⟨rfl, HD2.out⟩
      · have d3 : (p.2 != 1) = true := by simpa using e3
        clear n1 n2 n3 e3
        go_wp2_with (first | ((with_reducible refine gate_callee (f := 19) rfl ?_); refine goesL_ (some 30) rfl rfl Try.func19 (by kernel_rfl) rfl #[.slice A l.length c] rfl (by (try simp only [List.map_toArray, List.map_cons, List.map_nil]); first | done | rfl) ?_; refine (rubricatorref3_Fill.calls kf A c l _ _ (Kd.C_below HR.out HD.out.below) HC.out HFL.out).mono ?_; rintro e w2 ⟨rfl, hd⟩; refine ⟨_, rfl, ?_⟩; have HD2 := Aside0.mk (below_step HD.out.below hd.below); clear hd))
        go_ret2
        exact ⟨rfl, HD2.out⟩
theorem refFin {w w3 w4 w5 : World} {A3 : Option Addr} {c3 : Nat} {v4 : Value} {A5 : Option Addr} {c5 : Nat} {C l : List Int} (hv3 : Kd.R (Kd.int .i64) 3 w3 w.heap.size (fun _ => True) (.slice A3 C.length c3) C) (hb3 : Below w.heap.size w w3) (hv4 : Kd.R (Kd.int .i64) 3 w4 w3.heap.size (fun _ => True) v4 []) (hb34 : Below w3.heap.size w3 w4) (hb4 : Below w.heap.size w w4)
    (hv5 : Kd.R (Kd.int .i64) 3 w5 w.heap.size (fun _ => True) (.slice A5 l.length c5) l) (hg5 : w4.grownBy w5 v4.ownBlock) (hb5 : Below w3.heap.size w4 w5) :
    RDec (w5.alloc (.cells #[.slice A3 C.length c3, .slice A5 l.length c5, .int .i64 0, .int .i64 0] 60)) w.heap.size w5.heap.size C l 0 0 ∧ Below w.heap.size w (w5.alloc (.cells #[.slice A3 C.length c3, .slice A5 l.length c5, .int .i64 0, .int .i64 0] 60)) := by
  have hs34 := hb34.size
  have hs45 := hb5.size
  have hB5 : Below w.heap.size w w5 := hb4.trans (hb5.mono hb3.size)
  refine ⟨⟨⟨A3, c3, A5, c5, heap_alloc_new w5 _, ?_, ?_⟩, hB5.size⟩, below_alloc hB5 _⟩
  · refine Kd.R_alloc (Kd.R_mono (Kd.R_step (Kd.R_bound hv3) (fun k hk hlt => ?_)) (fun k hk => by have := hk.2.2.1; omega)) _
    rw [← hb34.block k hlt]
    exact hg5.block k (by omega) (fun e => by
      have := ((Kd.R_bound hv4).1 k e.symm).2.1
      omega)
  · exact Kd.R_alloc (Kd.R_mono (Kd.R_bound hv5) (fun k hk => hk.2.2.1)) _
set_option maxHeartbeats 4000000 in
set_option maxRecDepth 100000 in
theorem refNew (A : Option Addr) (c : Nat) (l : List Int) (w : World) (hr : Kd.C (Kd.int .i64) w A l.length l) (hc : l.length ≤ c) (hl : isL l = true) (hm : mayD l = true) :
    Calls Try.prog 24 #[.slice A l.length c] w fun e w' => ∃ x, e = .returned (.tuple #[.pointer (some ⟨x, 0, none⟩), .int .i64 0]) ∧ RDec w' w.heap.size x (codesF l).1 l 0 0 ∧ Below w.heap.size w w' := by
  obtain ⟨kc, hkc⟩ := (codes_ev l).rounds
  have HCO := Aside0.mk (show rubricatorref3_Codes.f kc l = some ((codesF l).1, (codesF l).2) from hkc)
  clear hkc
  have HR := Aside0.mk hr
  have HC := Aside0.mk hc
  obtain ⟨ki, hki⟩ := (is_ev l).rounds
  have HIS := Aside0.mk hki
  rw [hl] at hki
  have HIS := Aside0.mk hki
  have HL := Aside0.mk hl
  have HN := Aside0.mk (isL_len hl)
  obtain ⟨kf, hkf⟩ := (fill_ev l hl).rounds
  have HFL := Aside0.mk hkf
  have HM := Aside0.mk ((may_doc hl))
  have HMM := Aside0.mk hm
  clear hki hkf hl hr hc hm
  go_enter Try.func24, Try.ntmps24
  go_wp2_with (first | ((with_reducible refine gate_callee (f := 30) rfl ?_); refine goesL_ (some 10) rfl rfl Try.func30 (by kernel_rfl) rfl #[.slice A l.length c] rfl (by (try simp only [List.map_toArray, List.map_cons, List.map_nil]); first | done | rfl) ?_; refine (rubricatorref3_Is.calls ki A c l _ _ HR.out HC.out HIS.out).mono ?_; rintro e w1 ⟨rfl, hd⟩; refine ⟨_, rfl, ?_⟩; have HD0 := Aside0.mk hd; clear hd))
  go_loopg [4, 5, 6] l.length (fun gg v4 v5 v6 wr => ∃ k : Nat, k ≤ l.length ∧ l.length - k ≤ gg ∧ v4 = .int .i64 (fillP l k).2 ∧ v5 = .int .i64 (onlyP l k) ∧ v6 = .int .i64 k ∧ Aside0 (Drawn0 w wr))
  case atStart => exact ⟨0, by omega, by omega, rfl, rfl, rfl, HD0⟩
  case round =>
    obtain ⟨k, hk, hgg, rfl, rfl, rfl, HD⟩ := hrel
    by_cases hlt : k < l.length
    case pos =>
      have hd1 : decide ((k : Int) < (l.length : Int)) = true := decide_eq_true (by omega)
      have hkz : (k : Int) < (l.length : Int) := by omega
      obtain ⟨ad, e, hcell0⟩ := at_i HR.out k hlt
      cases e
      have hcell := (HD.out.below.cell (World.block_lt_of_cell? w _ hcell0)).trans hcell0
      have hs := fillP_small HL.out k hk
      have h2 : (fillP l (k + 1)).2 = if l.getD k 0 > 0 then (fillP l k).2 + 1 else (fillP l k).2 := by
        rw [fillP]
        split <;> rfl
      have h3 : onlyP l (k + 1) = if l.getD k 0 > 0 then l.getD k 0 else onlyP l k := rfl
      have hw2 : wrap64 ((k : Int) + 1) = ((k + 1 : Nat) : Int) := w64 (x := (k : Int) + 1) (by omega) (by have := HN.out; omega)
      have hw3 : wrap64 ((fillP l k).2 + 1) = (fillP l k).2 + 1 := w64 (by omega) (by have := HN.out; clear hw2; omega)
      have HK := Aside0.mk (And.intro hlt hgg)
      generalize l.getD k 0 = x at hcell h2 h3
      generalize (fillP l k).2 = mm at h2 hw3
      generalize onlyP l k = oo at h3
      have HW := Aside0.mk (And.intro hw2 (And.intro hw3 (And.intro h2 h3)))
      clear hcell0 hs hk hgg hlt hw2 hw3 h2 h3
      by_cases hx : x > 0
      · have dx : decide (x > 0) = true := decide_eq_true hx
        go_wp2
        go_roundg (l.length - (k + 1))
        case rel =>
          obtain ⟨z1, z2, z3, z4⟩ := HW.out
          rw [if_pos (show x > 0 by clear z1 z2; omega)] at z3 z4
          exact ⟨k + 1, by have := HK.out; clear z1 z2; omega, Nat.le_refl _, by rw [z2, z3], by rw [z4], by first | rfl | rw [z1], HD⟩
        case measure => have := HK.out; omega
      · have dx : decide (x > 0) = false := decide_eq_false hx
        go_wp2
        go_roundg (l.length - (k + 1))
        case rel =>
          obtain ⟨z1, z2, z3, z4⟩ := HW.out
          rw [if_neg (show ¬ x > 0 by clear z1 z2; omega)] at z3 z4
          exact ⟨k + 1, by have := HK.out; clear z1 z2; omega, Nat.le_refl _, by rw [z3], by rw [z4], by first | rfl | rw [z1], HD⟩
        case measure => have := HK.out; omega
    case neg =>
      have hke : k = l.length := by omega
      subst hke
      have hd1 : decide ((l.length : Int) < (l.length : Int)) = false := decide_eq_false (by omega)
      clear hk hgg hlt HD0
      have hmd : ¬ ((fillP l l.length).1 ≠ 32768 ∧ (fillP l l.length).2 ≠ 0 ∧ ((fillP l l.length).2 ≠ 1 ∨ onlyP l l.length ≠ 1)) := HM.out.1 HMM.out
      generalize (fillP l l.length) = p at HFL hmd
      generalize onlyP l l.length = oo at hmd
      by_cases e1 : p.1 = 32768
      · have d1 : (p.1 != 32768) = false := by simp [e1]
        clear hmd e1
        go_wp2_with (first | ((with_reducible refine gate_callee (f := 19) rfl ?_); refine goesL_ (some 30) rfl rfl Try.func19 (by kernel_rfl) rfl #[.slice A l.length c] rfl (by (try simp only [List.map_toArray, List.map_cons, List.map_nil]); first | done | rfl) ?_; refine (rubricatorref3_Fill.calls kf A c l _ _ (Kd.C_below HR.out HD.out.below) HC.out HFL.out).mono ?_; rintro e w2 ⟨rfl, hd⟩; refine ⟨_, rfl, ?_⟩; have HD2 := Aside0.mk (below_step HD.out.below hd.below); clear hd) | ((with_reducible refine gate_callee (f := 14) rfl ?_); refine goesL_ (some 46) rfl rfl Try.func14 (by kernel_rfl) rfl #[.slice A l.length c] rfl (by (try simp only [List.map_toArray, List.map_cons, List.map_nil]); first | done | rfl) ?_; refine (rubricatorref3_Codes.calls kc A c l _ _ _ (Kd.C_below HR.out HD2.out) HC.out HCO.out).mono ?_; rintro e w3 ⟨v3, rfl, hv3, hb3⟩; obtain ⟨A3, c3, rfl, _, _⟩ := Kd.R_reads hv3; refine ⟨_, rfl, ?_⟩; have HV3 := Aside0.mk (Kd.R_lower hv3 HD2.out.size); have HB3 := Aside0.mk (below_step HD2.out hb3); clear hv3 hb3) | ((with_reducible refine gate_dst (N := 50) rfl ?_); refine Kd.R_lit (Kd.int .i64) _ 3 ?hg (N := 50) ?hd (xs := ([] : List Int)) (inner := []) (ok := fun _ => True) (okp := fun _ => True) ?hr ?hp (fun _ hk => hk) trivial (Below.refl _ _) (Nat.le_refl _) (by simp) ?_; (case hd => rfl); (case hg => rfl); (case hr => first | (go_simp; done) | (go_simp; rfl)); (case hp => exact (Reps.none _ _)); intro v4 w4 ho4 hb hg_ hnew_; clear hg_ hnew_; have HV4 := Aside0.mk ho4; have HB34 := Aside0.mk hb; have HB4 := Aside0.mk (below_step HB3.out hb); clear hb ho4) | ((with_reducible refine gate_builtin (b := .append) (xs := #[.tmp 50, .tmp 51]) rfl ?_); at_builtin; refine Kd.R_append_rows (Kd.int .i64) (w0 := w4) w3.heap.size rfl (.tmp 50) (.tmp 51) 22 3 (.int .i64 0) 8 rfl Try.underlying22 inf3 rfl (by decide) (by decide) v4 [] l A _ _ (fun _ => True) (fun _ => False) rfl rfl ?aO ?aR (fun _ _ h => h) (fun _ h => h.elim) ?aF ?aB ?aS ?aL ?_; (case aR => exact (Kd.C_below HR.out HB4.out)); (case aB => exact Below.refl _ _); (case aF => exact (fun _ _ => trivial)); (case aO => exact HV4.out); (case aS => exact HB34.out.size); (case aL => have := HN.out; simp; omega); intro v5 w5 ho hb hg hat; rw [List.nil_append] at ho; obtain ⟨A5, c5, rfl, _, _⟩ := Kd.R_reads ho; have HV5 := Aside0.mk (Kd.R_lower ho HB3.out.size); have HG5 := Aside0.mk hg; have HB5 := Aside0.mk hb; clear ho hb hg hat))
        go_ret2
        exact ⟨_, rfl, refFin HV3.out HB3.out HV4.out HB34.out HB4.out HV5.out HG5.out HB5.out⟩
      have d1 : (p.1 != 32768) = true := by simpa using e1
      by_cases e2 : p.2 = 0
      · have d2 : (p.2 != 0) = false := by simp [e2]
        clear hmd e1 e2
        go_wp2_with (first | ((with_reducible refine gate_callee (f := 19) rfl ?_); refine goesL_ (some 30) rfl rfl Try.func19 (by kernel_rfl) rfl #[.slice A l.length c] rfl (by (try simp only [List.map_toArray, List.map_cons, List.map_nil]); first | done | rfl) ?_; refine (rubricatorref3_Fill.calls kf A c l _ _ (Kd.C_below HR.out HD.out.below) HC.out HFL.out).mono ?_; rintro e w2 ⟨rfl, hd⟩; refine ⟨_, rfl, ?_⟩; have HD2 := Aside0.mk (below_step HD.out.below hd.below); clear hd) | ((with_reducible refine gate_callee (f := 14) rfl ?_); refine goesL_ (some 46) rfl rfl Try.func14 (by kernel_rfl) rfl #[.slice A l.length c] rfl (by (try simp only [List.map_toArray, List.map_cons, List.map_nil]); first | done | rfl) ?_; refine (rubricatorref3_Codes.calls kc A c l _ _ _ (Kd.C_below HR.out HD2.out) HC.out HCO.out).mono ?_; rintro e w3 ⟨v3, rfl, hv3, hb3⟩; obtain ⟨A3, c3, rfl, _, _⟩ := Kd.R_reads hv3; refine ⟨_, rfl, ?_⟩; have HV3 := Aside0.mk (Kd.R_lower hv3 HD2.out.size); have HB3 := Aside0.mk (below_step HD2.out hb3); clear hv3 hb3) | ((with_reducible refine gate_dst (N := 50) rfl ?_); refine Kd.R_lit (Kd.int .i64) _ 3 ?hg (N := 50) ?hd (xs := ([] : List Int)) (inner := []) (ok := fun _ => True) (okp := fun _ => True) ?hr ?hp (fun _ hk => hk) trivial (Below.refl _ _) (Nat.le_refl _) (by simp) ?_; (case hd => rfl); (case hg => rfl); (case hr => first | (go_simp; done) | (go_simp; rfl)); (case hp => exact (Reps.none _ _)); intro v4 w4 ho4 hb hg_ hnew_; clear hg_ hnew_; have HV4 := Aside0.mk ho4; have HB34 := Aside0.mk hb; have HB4 := Aside0.mk (below_step HB3.out hb); clear hb ho4) | ((with_reducible refine gate_builtin (b := .append) (xs := #[.tmp 50, .tmp 51]) rfl ?_); at_builtin; refine Kd.R_append_rows (Kd.int .i64) (w0 := w4) w3.heap.size rfl (.tmp 50) (.tmp 51) 22 3 (.int .i64 0) 8 rfl Try.underlying22 inf3 rfl (by decide) (by decide) v4 [] l A _ _ (fun _ => True) (fun _ => False) rfl rfl ?aO ?aR (fun _ _ h => h) (fun _ h => h.elim) ?aF ?aB ?aS ?aL ?_; (case aR => exact (Kd.C_below HR.out HB4.out)); (case aB => exact Below.refl _ _); (case aF => exact (fun _ _ => trivial)); (case aO => exact HV4.out); (case aS => exact HB34.out.size); (case aL => have := HN.out; simp; omega); intro v5 w5 ho hb hg hat; rw [List.nil_append] at ho; obtain ⟨A5, c5, rfl, _, _⟩ := Kd.R_reads ho; have HV5 := Aside0.mk (Kd.R_lower ho HB3.out.size); have HG5 := Aside0.mk hg; have HB5 := Aside0.mk hb; clear ho hb hg hat))
        go_ret2
        exact ⟨_, rfl, refFin HV3.out HB3.out HV4.out HB34.out HB4.out HV5.out HG5.out HB5.out⟩
      have d2 : (p.2 != 0) = true := by simpa using e2
      have e3 : p.2 = 1 := Classical.byContradiction (fun h => hmd ⟨e1, e2, .inl h⟩)
      have e4 : oo = 1 := Classical.byContradiction (fun h => hmd ⟨e1, e2, .inr h⟩)
      have d3 : (p.2 != 1) = false := by simp [e3]
      have d4 : (oo != 1) = false := by simp [e4]
      clear hmd e1 e2 e3 e4
      go_wp2_with (first | ((with_reducible refine gate_callee (f := 19) rfl ?_); refine goesL_ (some 30) rfl rfl Try.func19 (by kernel_rfl) rfl #[.slice A l.length c] rfl (by (try simp only [List.map_toArray, List.map_cons, List.map_nil]); first | done | rfl) ?_; refine (rubricatorref3_Fill.calls kf A c l _ _ (Kd.C_below HR.out HD.out.below) HC.out HFL.out).mono ?_; rintro e w2 ⟨rfl, hd⟩; refine ⟨_, rfl, ?_⟩; have HD2 := Aside0.mk (below_step HD.out.below hd.below); clear hd) | ((with_reducible refine gate_callee (f := 14) rfl ?_); refine goesL_ (some 46) rfl rfl Try.func14 (by kernel_rfl) rfl #[.slice A l.length c] rfl (by (try simp only [List.map_toArray, List.map_cons, List.map_nil]); first | done | rfl) ?_; refine (rubricatorref3_Codes.calls kc A c l _ _ _ (Kd.C_below HR.out HD2.out) HC.out HCO.out).mono ?_; rintro e w3 ⟨v3, rfl, hv3, hb3⟩; obtain ⟨A3, c3, rfl, _, _⟩ := Kd.R_reads hv3; refine ⟨_, rfl, ?_⟩; have HV3 := Aside0.mk (Kd.R_lower hv3 HD2.out.size); have HB3 := Aside0.mk (below_step HD2.out hb3); clear hv3 hb3) | ((with_reducible refine gate_dst (N := 50) rfl ?_); refine Kd.R_lit (Kd.int .i64) _ 3 ?hg (N := 50) ?hd (xs := ([] : List Int)) (inner := []) (ok := fun _ => True) (okp := fun _ => True) ?hr ?hp (fun _ hk => hk) trivial (Below.refl _ _) (Nat.le_refl _) (by simp) ?_; (case hd => rfl); (case hg => rfl); (case hr => first | (go_simp; done) | (go_simp; rfl)); (case hp => exact (Reps.none _ _)); intro v4 w4 ho4 hb hg_ hnew_; clear hg_ hnew_; have HV4 := Aside0.mk ho4; have HB34 := Aside0.mk hb; have HB4 := Aside0.mk (below_step HB3.out hb); clear hb ho4) | ((with_reducible refine gate_builtin (b := .append) (xs := #[.tmp 50, .tmp 51]) rfl ?_); at_builtin; refine Kd.R_append_rows (Kd.int .i64) (w0 := w4) w3.heap.size rfl (.tmp 50) (.tmp 51) 22 3 (.int .i64 0) 8 rfl Try.underlying22 inf3 rfl (by decide) (by decide) v4 [] l A _ _ (fun _ => True) (fun _ => False) rfl rfl ?aO ?aR (fun _ _ h => h) (fun _ h => h.elim) ?aF ?aB ?aS ?aL ?_; (case aR => exact (Kd.C_below HR.out HB4.out)); (case aB => exact Below.refl _ _); (case aF => exact (fun _ _ => trivial)); (case aO => exact HV4.out); (case aS => exact HB34.out.size); (case aL => have := HN.out; simp; omega); intro v5 w5 ho hb hg hat; rw [List.nil_append] at ho; obtain ⟨A5, c5, rfl, _, _⟩ := Kd.R_reads ho; have HV5 := Aside0.mk (Kd.R_lower ho HB3.out.size); have HG5 := Aside0.mk hg; have HB5 := Aside0.mk hb; clear ho hb hg hat))
      go_ret2
      exact ⟨_, rfl, refFin HV3.out HB3.out HV4.out HB34.out HB4.out HV5.out HG5.out HB5.out⟩
end Go.Proofs.Ytachnclfgjdglaa.PA
