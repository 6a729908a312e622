-- Printed by a program of this workplace (a turned printer): functions, and proofs that the calls come to them.
import Derived.Test.YtahgfbficidjlaaDoorPAx0
namespace Go.Proofs.YtahgfbficidjlaaDoor.PA
open Go.RowKit Go.Proofs.YtahgfbficidjlaaDoorW.PrintWords Go.Proofs.YtahgfbficidjlaaDoorW.PrintLast Go.Proofs.YtahgfbficidjlaaDoorW.PrintMore
attribute [local go_sem] max2_int min2_int max_two min_two max_three min_three max_four min_four   -- for this text's walks alone
set_option linter.unusedVariables false
set_option linter.unusedSimpArgs false

/-! ### rubricatorlaw14_own: function 8 -/
def rubricatorlaw14_own.f (l0 : List (S35)) : Option ((List (S35))) := (some (([] : List (S35)) : List (S35))).bind fun y101 => (if y101.length + l0.length < 2199023255552 then (some (y101 ++ l0)) else (none))
set_option maxHeartbeats 8000000 in
set_option maxRecDepth 100000 in
theorem rubricatorlaw14_own.calls (A0 : Option Addr) (c0 : Nat) (l0 : List (S35)) (r : List (S35)) (w : World) (hr0 : Kd.C k35 w A0 l0.length l0) (hc0 : l0.length ≤ c0) (h : rubricatorlaw14_own.f l0 = some r) :
    Calls Tryd.prog 8 #[.slice A0 l0.length c0] w fun e w' => ∃ v0_ : Value, e = .returned (v0_) ∧ Kd.R k35 35 w' w.heap.size (fun _ => True) v0_ r ∧ Below w.heap.size w w' := by
  have HR0 := Aside0.mk hr0
  have HC0 := Aside0.mk hc0
  clear hr0 hc0
  have HB := Aside0.mk (Below.refl w.heap.size w)
  have H : ((some (([] : List (S35)) : List (S35))).bind fun y101 => (if y101.length + l0.length < 2199023255552 then (some (y101 ++ l0)) else (none))) = some r := h
  clear h
  obtain ⟨y101, hy101⟩ : ∃ y_ : List (S35), y_ = (([] : List (S35))) := ⟨_, rfl⟩
  replace H : (if y101.length + l0.length < 2199023255552 then (some (y101 ++ l0)) else (none)) = some r := by first | (rw [hy101]; with_reducible exact H) | (have H2_ := (Option.bind_some _ _).symm.trans H; rw [hy101]; with_reducible exact H2_) | (have H2_ := (Option.bind_some _ _).symm.trans H; with_reducible exact H2_) | with_reducible exact H | (rw [hy101]; exact H) | exact H
  have Ny101 := Aside0.mk hy101
  clear hy101
  by_cases c2 : y101.length + l0.length < 2199023255552
  · rw [if_pos c2] at H
    have LMc2 := Aside0.mk c2
    clear c2
    obtain ⟨y104, hy104⟩ : ∃ y_ : List (S35), y_ = (y101 ++ l0) := ⟨_, rfl⟩
    replace H : (some y104) = some r := by first | (rw [hy104]; with_reducible exact H) | (have H2_ := (Option.bind_some _ _).symm.trans H; rw [hy104]; with_reducible exact H2_) | (have H2_ := (Option.bind_some _ _).symm.trans H; with_reducible exact H2_) | with_reducible exact H | (rw [hy104]; exact H) | exact H
    have Ny104 := Aside0.mk hy104
    clear hy104
    obtain rfl := Option.some.inj H
    go_enter Tryd.func8, Tryd.ntmps8
    go_wp2_with (first | ((with_reducible refine gate_dst (N := 3) rfl ?_); refine Kd.R_lit k35 _ 35 ?hg (N := 3) ?hd (xs := ([] : List (S35))) (inner := []) (ok := fun _ => True) (okp := fun _ => True) ?hr ?hp (fun _ hk => hk) trivial (Below.refl _ _) (Nat.le_refl _) (by simp) ?_; (case hd => rfl); (case hg => rfl); (case hr => first | (go_simp; done) | (go_simp; rfl)); (case hp => exact (Reps.none _ _)); intro v102 w3 ho4 hb hg_ hnew_; clear hg_ hnew_; (first | rw [← Ny101.out] at ho4 | (simp only [Int.reduceToNat] at ho4; rw [← Ny101.out] at ho4)); have n0_ := Aside0.mk (Kd.R_lower ho4 (below_size (by repeat (first | (with_reducible first | exact HB.out | apply below_alloc | apply pw_below_drewN | apply below_drew1) | exact HB.out)))); have n1_ := Aside0.mk (below_step (by repeat (first | (with_reducible first | exact HB.out | apply below_alloc | apply pw_below_drewN | apply below_drew1) | exact HB.out)) hb); clear HB; have HO103 := n0_; have HB := n1_; clear n0_ n1_; clear hb ho4) | ((with_reducible refine gate_builtin (b := .append) (xs := #[.tmp 3, .tmp 4]) rfl ?_); at_builtin; refine Kd.R_append_rows k35 (w0 := w) w.heap.size rfl (.tmp 3) (.tmp 4) 22 35 (.agg #[(.string ⟨#[]⟩), (.string ⟨#[]⟩), (.bool false), (.int .i64 0), (.int .i64 0), (.int .i64 0)]) 64 rfl Tryd.underlying22 info35 rfl (by decide) (by omega) v102 y101 l0 _ _ _ (fun _ => True) (fun _ => False) rfl rfl ?aO ?aR (fun _ _ h => h) (fun _ h => h.elim) ?aF ?aB ?aS ?aL ?_; (case aR => repeat (first | exact (Kd.C_below HR0.out HB.out) | (with_reducible refine Kd.C_alloc ?_ _) | (with_reducible refine Kd.C_drewN ?_ _) | (with_reducible refine Kd.C_drew ?_))); (case aB => exact (by repeat (first | (with_reducible first | exact HB.out | apply below_alloc | apply pw_below_drewN | apply below_drew1) | exact HB.out))); (case aF => exact (fun _ _ => trivial)); (case aO => exact (by (with_reducible repeat (first | apply Kd.R_alloc | apply Kd.R_drewN | apply Kd.R_drew)); exact HO103.out)); (case aS => exact (below_size (by repeat (first | (with_reducible first | exact HB.out | apply below_alloc | apply pw_below_drewN | apply below_drew1) | exact HB.out)))); (case aL => have := LMc2.out; omega); intro v105 w5 ho hb hg hat; rw [← Ny104.out] at ho; have n0_ := Aside0.mk (hb); have n1_ := Aside0.mk (ho); clear HB; clear HO103; have HB := n0_; have HO106 := n1_; clear n0_ n1_; clear ho hb hg hat))
    go_ret
    exact ⟨_, by first | rfl | (simp [errW_none, errW_some] <;> rfl) | (simp [*, errW_none, errW_some] <;> rfl), by (with_reducible repeat (first | apply Kd.R_alloc | apply Kd.R_drewN | apply Kd.R_drew)); exact HO106.out, by repeat (first | (with_reducible first | exact HB.out | apply below_alloc | apply pw_below_drewN | apply below_drew1) | exact HB.out)⟩
  · rw [if_neg c2] at H
    exact absurd H (by simp)

/-! ### style_alone: function 19 -/
def style_alone.f (a0_0 : ByteArray) (a0_1 : ByteArray) (a0_2 : Bool) (a0_3 : Int) (a0_4 : Int) (a0_5 : Int) : Option (Bool) := if a0_0.toList = ([] : List UInt8) then (some true) else (if a0_3 < 0 then (some true) else (if a0_3 > 2 then (some true) else (if a0_4 < 0 then (some true) else (if a0_4 > 2 then (some true) else (if a0_5 < 0 then (some true) else (if a0_5 > 6 then (some true) else (if a0_2 = true then (some (decide (a0_5 > 0))) else (some false))))))))
set_option maxHeartbeats 8000000 in
set_option maxRecDepth 100000 in
theorem style_alone.calls (a0_0 : ByteArray) (a0_1 : ByteArray) (a0_2 : Bool) (a0_3 : Int) (a0_4 : Int) (a0_5 : Int) (r : Bool) (w : World) (h : style_alone.f a0_0 a0_1 a0_2 a0_3 a0_4 a0_5 = some r) :
    Calls Tryd.prog 19 #[.agg #[.string a0_0, .string a0_1, .bool a0_2, .int .i64 a0_3, .int .i64 a0_4, .int .i64 a0_5]] w fun e w' => e = .returned (.bool r) ∧ Below w.heap.size w w' := by
  have hu35 := Tryd.underlying35
  have HB := Aside0.mk (Below.refl w.heap.size w)
  have H : (if a0_0.toList = ([] : List UInt8) then (some true) else (if a0_3 < 0 then (some true) else (if a0_3 > 2 then (some true) else (if a0_4 < 0 then (some true) else (if a0_4 > 2 then (some true) else (if a0_5 < 0 then (some true) else (if a0_5 > 6 then (some true) else (if a0_2 = true then (some (decide (a0_5 > 0))) else (some false))))))))) = some r := h
  clear h
  by_cases c2 : a0_0.toList = ([] : List UInt8)
  · rw [if_pos c2] at H
    have c2b0 : (a0_0.toList == ([] : List UInt8)) = true := beq_iff_eq.mpr c2
    have c2b1 : (a0_0.toList != ([] : List UInt8)) = false := bne_eq_false_iff_eq.mpr c2
    clear c2
    obtain rfl := Option.some.inj H
    go_enter Tryd.func19, Tryd.ntmps19
    go_wp2_with (first | ((with_reducible refine gate_dst (N := 1) rfl ?_); refine box_event ?hg (N := 1) ?hd (cs := #[.string a0_0, .string a0_1, .bool a0_2, .int .i64 a0_3, .int .i64 a0_4, .int .i64 a0_5]) (t := 35) ?hr ?_; (case hd => rfl); (case hg => rfl); (case hr => first | (go_simp; done) | (go_simp; rfl)); intro gb107 hg w3 hbox hb; have n0_ := Aside0.mk (below_step (by repeat (first | (with_reducible first | exact HB.out | apply below_alloc | apply pw_below_drewN | apply below_drew1) | exact HB.out)) hb); have n1_ := Aside0.mk (hbox); have n2_ := Aside0.mk ((by rw [hg]; exact (below_size (by repeat (first | (with_reducible first | exact HB.out | apply below_alloc | apply pw_below_drewN | apply below_drew1) | exact HB.out))) : w.heap.size ≤ gb107)); have n3_ := Aside0.mk ((by rw [hg]; exact (below_size (by repeat (first | (with_reducible first | exact HB.out | apply below_alloc | apply pw_below_drewN | apply below_drew1) | exact HB.out))) : w.heap.size ≤ gb107)); clear HB; have HB := n0_; have BK107 := n1_; have GW107 := n2_; have GE107 := n3_; clear n0_ n1_ n2_ n3_; clear hb hbox hg; have hcz4_0 : w3.cell? ⟨gb107, 0, none⟩ = some (.string a0_0) := (blk_cell BK107.out 0).trans rfl; have hcz4_1 : w3.cell? ⟨gb107, 1, none⟩ = some (.string a0_1) := (blk_cell BK107.out 1).trans rfl; have hcz4_2 : w3.cell? ⟨gb107, 2, none⟩ = some (.bool a0_2) := (blk_cell BK107.out 2).trans rfl; have hcz4_3 : w3.cell? ⟨gb107, 3, none⟩ = some (.int .i64 a0_3) := (blk_cell BK107.out 3).trans rfl; have hcz4_4 : w3.cell? ⟨gb107, 4, none⟩ = some (.int .i64 a0_4) := (blk_cell BK107.out 4).trans rfl; have hcz4_5 : w3.cell? ⟨gb107, 5, none⟩ = some (.int .i64 a0_5) := (blk_cell BK107.out 5).trans rfl; have hfz4_0 := blk_frozen BK107.out 0; have hfz4_1 := blk_frozen BK107.out 1; have hfz4_2 := blk_frozen BK107.out 2; have hfz4_3 := blk_frozen BK107.out 3; have hfz4_4 := blk_frozen BK107.out 4; have hfz4_5 := blk_frozen BK107.out 5))
    go_ret
    exact ⟨by first | rfl | (simp [errW_none, errW_some] <;> rfl) | (simp [*, errW_none, errW_some] <;> rfl), by repeat (first | (with_reducible first | exact HB.out | apply below_alloc | apply pw_below_drewN | apply below_drew1 | refine below_set ?_ GE107.out) | exact HB.out)⟩
  · rw [if_neg c2] at H
    have c2b0 : (a0_0.toList == ([] : List UInt8)) = false := beq_eq_false_iff_ne.mpr c2
    have c2b1 : (a0_0.toList != ([] : List UInt8)) = true := bne_iff_ne.mpr c2
    by_cases c5 : a0_3 < 0
    · rw [if_pos c5] at H
      have c5b0 : decide (a0_3 < 0) = true := decide_eq_true c5
      clear c5
      obtain rfl := Option.some.inj H
      go_enter Tryd.func19, Tryd.ntmps19
      go_wp2_with (first | ((with_reducible refine gate_dst (N := 1) rfl ?_); refine box_event ?hg (N := 1) ?hd (cs := #[.string a0_0, .string a0_1, .bool a0_2, .int .i64 a0_3, .int .i64 a0_4, .int .i64 a0_5]) (t := 35) ?hr ?_; (case hd => rfl); (case hg => rfl); (case hr => first | (go_simp; done) | (go_simp; rfl)); intro gb107 hg w6 hbox hb; have n0_ := Aside0.mk (below_step (by repeat (first | (with_reducible first | exact HB.out | apply below_alloc | apply pw_below_drewN | apply below_drew1) | exact HB.out)) hb); have n1_ := Aside0.mk (hbox); have n2_ := Aside0.mk ((by rw [hg]; exact (below_size (by repeat (first | (with_reducible first | exact HB.out | apply below_alloc | apply pw_below_drewN | apply below_drew1) | exact HB.out))) : w.heap.size ≤ gb107)); have n3_ := Aside0.mk ((by rw [hg]; exact (below_size (by repeat (first | (with_reducible first | exact HB.out | apply below_alloc | apply pw_below_drewN | apply below_drew1) | exact HB.out))) : w.heap.size ≤ gb107)); clear HB; have HB := n0_; have BK107 := n1_; have GW107 := n2_; have GE107 := n3_; clear n0_ n1_ n2_ n3_; clear hb hbox hg; have hcz7_0 : w6.cell? ⟨gb107, 0, none⟩ = some (.string a0_0) := (blk_cell BK107.out 0).trans rfl; have hcz7_1 : w6.cell? ⟨gb107, 1, none⟩ = some (.string a0_1) := (blk_cell BK107.out 1).trans rfl; have hcz7_2 : w6.cell? ⟨gb107, 2, none⟩ = some (.bool a0_2) := (blk_cell BK107.out 2).trans rfl; have hcz7_3 : w6.cell? ⟨gb107, 3, none⟩ = some (.int .i64 a0_3) := (blk_cell BK107.out 3).trans rfl; have hcz7_4 : w6.cell? ⟨gb107, 4, none⟩ = some (.int .i64 a0_4) := (blk_cell BK107.out 4).trans rfl; have hcz7_5 : w6.cell? ⟨gb107, 5, none⟩ = some (.int .i64 a0_5) := (blk_cell BK107.out 5).trans rfl; have hfz7_0 := blk_frozen BK107.out 0; have hfz7_1 := blk_frozen BK107.out 1; have hfz7_2 := blk_frozen BK107.out 2; have hfz7_3 := blk_frozen BK107.out 3; have hfz7_4 := blk_frozen BK107.out 4; have hfz7_5 := blk_frozen BK107.out 5))
      go_ret
      exact ⟨by first | rfl | (simp [errW_none, errW_some] <;> rfl) | (simp [*, errW_none, errW_some] <;> rfl), by repeat (first | (with_reducible first | exact HB.out | apply below_alloc | apply pw_below_drewN | apply below_drew1 | refine below_set ?_ GE107.out) | exact HB.out)⟩
    · rw [if_neg c5] at H
      have c5b0 : decide (a0_3 < 0) = false := decide_eq_false c5
      clear c5
      by_cases c8 : a0_3 > 2
      · rw [if_pos c8] at H
        have c8b0 : decide (2 < a0_3) = true := decide_eq_true c8
        clear c8
        obtain rfl := Option.some.inj H
        go_enter Tryd.func19, Tryd.ntmps19
        go_wp2_with (first | ((with_reducible refine gate_dst (N := 1) rfl ?_); refine box_event ?hg (N := 1) ?hd (cs := #[.string a0_0, .string a0_1, .bool a0_2, .int .i64 a0_3, .int .i64 a0_4, .int .i64 a0_5]) (t := 35) ?hr ?_; (case hd => rfl); (case hg => rfl); (case hr => first | (go_simp; done) | (go_simp; rfl)); intro gb107 hg w9 hbox hb; have n0_ := Aside0.mk (below_step (by repeat (first | (with_reducible first | exact HB.out | apply below_alloc | apply pw_below_drewN | apply below_drew1) | exact HB.out)) hb); have n1_ := Aside0.mk (hbox); have n2_ := Aside0.mk ((by rw [hg]; exact (below_size (by repeat (first | (with_reducible first | exact HB.out | apply below_alloc | apply pw_below_drewN | apply below_drew1) | exact HB.out))) : w.heap.size ≤ gb107)); have n3_ := Aside0.mk ((by rw [hg]; exact (below_size (by repeat (first | (with_reducible first | exact HB.out | apply below_alloc | apply pw_below_drewN | apply below_drew1) | exact HB.out))) : w.heap.size ≤ gb107)); clear HB; have HB := n0_; have BK107 := n1_; have GW107 := n2_; have GE107 := n3_; clear n0_ n1_ n2_ n3_; clear hb hbox hg; have hcz10_0 : w9.cell? ⟨gb107, 0, none⟩ = some (.string a0_0) := (blk_cell BK107.out 0).trans rfl; have hcz10_1 : w9.cell? ⟨gb107, 1, none⟩ = some (.string a0_1) := (blk_cell BK107.out 1).trans rfl; have hcz10_2 : w9.cell? ⟨gb107, 2, none⟩ = some (.bool a0_2) := (blk_cell BK107.out 2).trans rfl; have hcz10_3 : w9.cell? ⟨gb107, 3, none⟩ = some (.int .i64 a0_3) := (blk_cell BK107.out 3).trans rfl; have hcz10_4 : w9.cell? ⟨gb107, 4, none⟩ = some (.int .i64 a0_4) := (blk_cell BK107.out 4).trans rfl; have hcz10_5 : w9.cell? ⟨gb107, 5, none⟩ = some (.int .i64 a0_5) := (blk_cell BK107.out 5).trans rfl; have hfz10_0 := blk_frozen BK107.out 0; have hfz10_1 := blk_frozen BK107.out 1; have hfz10_2 := blk_frozen BK107.out 2; have hfz10_3 := blk_frozen BK107.out 3; have hfz10_4 := blk_frozen BK107.out 4; have hfz10_5 := blk_frozen BK107.out 5))
        go_ret
        exact ⟨by first | rfl | (simp [errW_none, errW_some] <;> rfl) | (simp [*, errW_none, errW_some] <;> rfl), by repeat (first | (with_reducible first | exact HB.out | apply below_alloc | apply pw_below_drewN | apply below_drew1 | refine below_set ?_ GE107.out) | exact HB.out)⟩
      · rw [if_neg c8] at H
        have c8b0 : decide (2 < a0_3) = false := decide_eq_false c8
        clear c8
        by_cases c11 : a0_4 < 0
        · rw [if_pos c11] at H
          have c11b0 : decide (a0_4 < 0) = true := decide_eq_true c11
          clear c11
          obtain rfl := Option.some.inj H
          go_enter Tryd.func19, Tryd.ntmps19
          go_wp2_with (first | ((with_reducible refine gate_dst (N := 1) rfl ?_); refine box_event ?hg (N := 1) ?hd (cs := #[.string a0_0, .string a0_1, .bool a0_2, .int .i64 a0_3, .int .i64 a0_4, .int .i64 a0_5]) (t := 35) ?hr ?_; (case hd => rfl); (case hg => rfl); (case hr => first | (go_simp; done) | (go_simp; rfl)); intro gb107 hg w12 hbox hb; have n0_ := Aside0.mk (below_step (by repeat (first | (with_reducible first | exact HB.out | apply below_alloc | apply pw_below_drewN | apply below_drew1) | exact HB.out)) hb); have n1_ := Aside0.mk (hbox); have n2_ := Aside0.mk ((by rw [hg]; exact (below_size (by repeat (first | (with_reducible first | exact HB.out | apply below_alloc | apply pw_below_drewN | apply below_drew1) | exact HB.out))) : w.heap.size ≤ gb107)); have n3_ := Aside0.mk ((by rw [hg]; exact (below_size (by repeat (first | (with_reducible first | exact HB.out | apply below_alloc | apply pw_below_drewN | apply below_drew1) | exact HB.out))) : w.heap.size ≤ gb107)); clear HB; have HB := n0_; have BK107 := n1_; have GW107 := n2_; have GE107 := n3_; clear n0_ n1_ n2_ n3_; clear hb hbox hg; have hcz13_0 : w12.cell? ⟨gb107, 0, none⟩ = some (.string a0_0) := (blk_cell BK107.out 0).trans rfl; have hcz13_1 : w12.cell? ⟨gb107, 1, none⟩ = some (.string a0_1) := (blk_cell BK107.out 1).trans rfl; have hcz13_2 : w12.cell? ⟨gb107, 2, none⟩ = some (.bool a0_2) := (blk_cell BK107.out 2).trans rfl; have hcz13_3 : w12.cell? ⟨gb107, 3, none⟩ = some (.int .i64 a0_3) := (blk_cell BK107.out 3).trans rfl; have hcz13_4 : w12.cell? ⟨gb107, 4, none⟩ = some (.int .i64 a0_4) := (blk_cell BK107.out 4).trans rfl; have hcz13_5 : w12.cell? ⟨gb107, 5, none⟩ = some (.int .i64 a0_5) := (blk_cell BK107.out 5).trans rfl; have hfz13_0 := blk_frozen BK107.out 0; have hfz13_1 := blk_frozen BK107.out 1; have hfz13_2 := blk_frozen BK107.out 2; have hfz13_3 := blk_frozen BK107.out 3; have hfz13_4 := blk_frozen BK107.out 4; have hfz13_5 := blk_frozen BK107.out 5))
          go_ret
          exact ⟨by first | rfl | (simp [errW_none, errW_some] <;> rfl) | (simp [*, errW_none, errW_some] <;> rfl), by repeat (first | (with_reducible first | exact HB.out | apply below_alloc | apply pw_below_drewN | apply below_drew1 | refine below_set ?_ GE107.out) | exact HB.out)⟩
        · rw [if_neg c11] at H
          have c11b0 : decide (a0_4 < 0) = false := decide_eq_false c11
          clear c11
          by_cases c14 : a0_4 > 2
          · rw [if_pos c14] at H
            have c14b0 : decide (2 < a0_4) = true := decide_eq_true c14
            clear c14
            obtain rfl := Option.some.inj H
            go_enter Tryd.func19, Tryd.ntmps19
            go_wp2_with (first | ((with_reducible refine gate_dst (N := 1) rfl ?_); refine box_event ?hg (N := 1) ?hd (cs := #[.string a0_0, .string a0_1, .bool a0_2, .int .i64 a0_3, .int .i64 a0_4, .int .i64 a0_5]) (t := 35) ?hr ?_; (case hd => rfl); (case hg => rfl); (case hr => first | (go_simp; done) | (go_simp; rfl)); intro gb107 hg w15 hbox hb; have n0_ := Aside0.mk (below_step (by repeat (first | (with_reducible first | exact HB.out | apply below_alloc | apply pw_below_drewN | apply below_drew1) | exact HB.out)) hb); have n1_ := Aside0.mk (hbox); have n2_ := Aside0.mk ((by rw [hg]; exact (below_size (by repeat (first | (with_reducible first | exact HB.out | apply below_alloc | apply pw_below_drewN | apply below_drew1) | exact HB.out))) : w.heap.size ≤ gb107)); have n3_ := Aside0.mk ((by rw [hg]; exact (below_size (by repeat (first | (with_reducible first | exact HB.out | apply below_alloc | apply pw_below_drewN | apply below_drew1) | exact HB.out))) : w.heap.size ≤ gb107)); clear HB; have HB := n0_; have BK107 := n1_; have GW107 := n2_; have GE107 := n3_; clear n0_ n1_ n2_ n3_; clear hb hbox hg; have hcz16_0 : w15.cell? ⟨gb107, 0, none⟩ = some (.string a0_0) := (blk_cell BK107.out 0).trans rfl; have hcz16_1 : w15.cell? ⟨gb107, 1, none⟩ = some (.string a0_1) := (blk_cell BK107.out 1).trans rfl; have hcz16_2 : w15.cell? ⟨gb107, 2, none⟩ = some (.bool a0_2) := (blk_cell BK107.out 2).trans rfl; have hcz16_3 : w15.cell? ⟨gb107, 3, none⟩ = some (.int .i64 a0_3) := (blk_cell BK107.out 3).trans rfl; have hcz16_4 : w15.cell? ⟨gb107, 4, none⟩ = some (.int .i64 a0_4) := (blk_cell BK107.out 4).trans rfl; have hcz16_5 : w15.cell? ⟨gb107, 5, none⟩ = some (.int .i64 a0_5) := (blk_cell BK107.out 5).trans rfl; have hfz16_0 := blk_frozen BK107.out 0; have hfz16_1 := blk_frozen BK107.out 1; have hfz16_2 := blk_frozen BK107.out 2; have hfz16_3 := blk_frozen BK107.out 3; have hfz16_4 := blk_frozen BK107.out 4; have hfz16_5 := blk_frozen BK107.out 5))
            go_ret
            exact ⟨by first | rfl | (simp [errW_none, errW_some] <;> rfl) | (simp [*, errW_none, errW_some] <;> rfl), by repeat (first | (with_reducible first | exact HB.out | apply below_alloc | apply pw_below_drewN | apply below_drew1 | refine below_set ?_ GE107.out) | exact HB.out)⟩
          · rw [if_neg c14] at H
            have c14b0 : decide (2 < a0_4) = false := decide_eq_false c14
            clear c14
            by_cases c17 : a0_5 < 0
            · rw [if_pos c17] at H
              have c17b0 : decide (a0_5 < 0) = true := decide_eq_true c17
              clear c17
              obtain rfl := Option.some.inj H
              go_enter Tryd.func19, Tryd.ntmps19
              go_wp2_with (first | ((with_reducible refine gate_dst (N := 1) rfl ?_); refine box_event ?hg (N := 1) ?hd (cs := #[.string a0_0, .string a0_1, .bool a0_2, .int .i64 a0_3, .int .i64 a0_4, .int .i64 a0_5]) (t := 35) ?hr ?_; (case hd => rfl); (case hg => rfl); (case hr => first | (go_simp; done) | (go_simp; rfl)); intro gb107 hg w18 hbox hb; have n0_ := Aside0.mk (below_step (by repeat (first | (with_reducible first | exact HB.out | apply below_alloc | apply pw_below_drewN | apply below_drew1) | exact HB.out)) hb); have n1_ := Aside0.mk (hbox); have n2_ := Aside0.mk ((by rw [hg]; exact (below_size (by repeat (first | (with_reducible first | exact HB.out | apply below_alloc | apply pw_below_drewN | apply below_drew1) | exact HB.out))) : w.heap.size ≤ gb107)); have n3_ := Aside0.mk ((by rw [hg]; exact (below_size (by repeat (first | (with_reducible first | exact HB.out | apply below_alloc | apply pw_below_drewN | apply below_drew1) | exact HB.out))) : w.heap.size ≤ gb107)); clear HB; have HB := n0_; have BK107 := n1_; have GW107 := n2_; have GE107 := n3_; clear n0_ n1_ n2_ n3_; clear hb hbox hg; have hcz19_0 : w18.cell? ⟨gb107, 0, none⟩ = some (.string a0_0) := (blk_cell BK107.out 0).trans rfl; have hcz19_1 : w18.cell? ⟨gb107, 1, none⟩ = some (.string a0_1) := (blk_cell BK107.out 1).trans rfl; have hcz19_2 : w18.cell? ⟨gb107, 2, none⟩ = some (.bool a0_2) := (blk_cell BK107.out 2).trans rfl; have hcz19_3 : w18.cell? ⟨gb107, 3, none⟩ = some (.int .i64 a0_3) := (blk_cell BK107.out 3).trans rfl; have hcz19_4 : w18.cell? ⟨gb107, 4, none⟩ = some (.int .i64 a0_4) := (blk_cell BK107.out 4).trans rfl; have hcz19_5 : w18.cell? ⟨gb107, 5, none⟩ = some (.int .i64 a0_5) := (blk_cell BK107.out 5).trans rfl; have hfz19_0 := blk_frozen BK107.out 0; have hfz19_1 := blk_frozen BK107.out 1; have hfz19_2 := blk_frozen BK107.out 2; have hfz19_3 := blk_frozen BK107.out 3; have hfz19_4 := blk_frozen BK107.out 4; have hfz19_5 := blk_frozen BK107.out 5))
              go_ret
              exact ⟨by first | rfl | (simp [errW_none, errW_some] <;> rfl) | (simp [*, errW_none, errW_some] <;> rfl), by repeat (first | (with_reducible first | exact HB.out | apply below_alloc | apply pw_below_drewN | apply below_drew1 | refine below_set ?_ GE107.out) | exact HB.out)⟩
            · rw [if_neg c17] at H
              have c17b0 : decide (a0_5 < 0) = false := decide_eq_false c17
              clear c17
              by_cases c20 : a0_5 > 6
              · rw [if_pos c20] at H
                have c20b0 : decide (6 < a0_5) = true := decide_eq_true c20
                clear c20
                obtain rfl := Option.some.inj H
                go_enter Tryd.func19, Tryd.ntmps19
                go_wp2_with (first | ((with_reducible refine gate_dst (N := 1) rfl ?_); refine box_event ?hg (N := 1) ?hd (cs := #[.string a0_0, .string a0_1, .bool a0_2, .int .i64 a0_3, .int .i64 a0_4, .int .i64 a0_5]) (t := 35) ?hr ?_; (case hd => rfl); (case hg => rfl); (case hr => first | (go_simp; done) | (go_simp; rfl)); intro gb107 hg w21 hbox hb; have n0_ := Aside0.mk (below_step (by repeat (first | (with_reducible first | exact HB.out | apply below_alloc | apply pw_below_drewN | apply below_drew1) | exact HB.out)) hb); have n1_ := Aside0.mk (hbox); have n2_ := Aside0.mk ((by rw [hg]; exact (below_size (by repeat (first | (with_reducible first | exact HB.out | apply below_alloc | apply pw_below_drewN | apply below_drew1) | exact HB.out))) : w.heap.size ≤ gb107)); have n3_ := Aside0.mk ((by rw [hg]; exact (below_size (by repeat (first | (with_reducible first | exact HB.out | apply below_alloc | apply pw_below_drewN | apply below_drew1) | exact HB.out))) : w.heap.size ≤ gb107)); clear HB; have HB := n0_; have BK107 := n1_; have GW107 := n2_; have GE107 := n3_; clear n0_ n1_ n2_ n3_; clear hb hbox hg; have hcz22_0 : w21.cell? ⟨gb107, 0, none⟩ = some (.string a0_0) := (blk_cell BK107.out 0).trans rfl; have hcz22_1 : w21.cell? ⟨gb107, 1, none⟩ = some (.string a0_1) := (blk_cell BK107.out 1).trans rfl; have hcz22_2 : w21.cell? ⟨gb107, 2, none⟩ = some (.bool a0_2) := (blk_cell BK107.out 2).trans rfl; have hcz22_3 : w21.cell? ⟨gb107, 3, none⟩ = some (.int .i64 a0_3) := (blk_cell BK107.out 3).trans rfl; have hcz22_4 : w21.cell? ⟨gb107, 4, none⟩ = some (.int .i64 a0_4) := (blk_cell BK107.out 4).trans rfl; have hcz22_5 : w21.cell? ⟨gb107, 5, none⟩ = some (.int .i64 a0_5) := (blk_cell BK107.out 5).trans rfl; have hfz22_0 := blk_frozen BK107.out 0; have hfz22_1 := blk_frozen BK107.out 1; have hfz22_2 := blk_frozen BK107.out 2; have hfz22_3 := blk_frozen BK107.out 3; have hfz22_4 := blk_frozen BK107.out 4; have hfz22_5 := blk_frozen BK107.out 5))
                go_ret
                exact ⟨by first | rfl | (simp [errW_none, errW_some] <;> rfl) | (simp [*, errW_none, errW_some] <;> rfl), by repeat (first | (with_reducible first | exact HB.out | apply below_alloc | apply pw_below_drewN | apply below_drew1 | refine below_set ?_ GE107.out) | exact HB.out)⟩
              · rw [if_neg c20] at H
                have c20b0 : decide (6 < a0_5) = false := decide_eq_false c20
                clear c20
                by_cases c23 : a0_2 = true
                · subst c23
                  have H1 : (some (decide (a0_5 > 0))) = some r := by rw [if_pos rfl] at H; exact H
                  clear H
                  have H := H1
                  clear H1
                  obtain rfl := Option.some.inj H
                  go_enter Tryd.func19, Tryd.ntmps19
                  go_wp2_with (first | ((with_reducible refine gate_dst (N := 1) rfl ?_); refine box_event ?hg (N := 1) ?hd (cs := #[.string a0_0, .string a0_1, .bool true, .int .i64 a0_3, .int .i64 a0_4, .int .i64 a0_5]) (t := 35) ?hr ?_; (case hd => rfl); (case hg => rfl); (case hr => first | (go_simp; done) | (go_simp; rfl)); intro gb107 hg w24 hbox hb; have n0_ := Aside0.mk (below_step (by repeat (first | (with_reducible first | exact HB.out | apply below_alloc | apply pw_below_drewN | apply below_drew1) | exact HB.out)) hb); have n1_ := Aside0.mk (hbox); have n2_ := Aside0.mk ((by rw [hg]; exact (below_size (by repeat (first | (with_reducible first | exact HB.out | apply below_alloc | apply pw_below_drewN | apply below_drew1) | exact HB.out))) : w.heap.size ≤ gb107)); have n3_ := Aside0.mk ((by rw [hg]; exact (below_size (by repeat (first | (with_reducible first | exact HB.out | apply below_alloc | apply pw_below_drewN | apply below_drew1) | exact HB.out))) : w.heap.size ≤ gb107)); clear HB; have HB := n0_; have BK107 := n1_; have GW107 := n2_; have GE107 := n3_; clear n0_ n1_ n2_ n3_; clear hb hbox hg; have hcz25_0 : w24.cell? ⟨gb107, 0, none⟩ = some (.string a0_0) := (blk_cell BK107.out 0).trans rfl; have hcz25_1 : w24.cell? ⟨gb107, 1, none⟩ = some (.string a0_1) := (blk_cell BK107.out 1).trans rfl; have hcz25_2 : w24.cell? ⟨gb107, 2, none⟩ = some (.bool true) := (blk_cell BK107.out 2).trans rfl; have hcz25_3 : w24.cell? ⟨gb107, 3, none⟩ = some (.int .i64 a0_3) := (blk_cell BK107.out 3).trans rfl; have hcz25_4 : w24.cell? ⟨gb107, 4, none⟩ = some (.int .i64 a0_4) := (blk_cell BK107.out 4).trans rfl; have hcz25_5 : w24.cell? ⟨gb107, 5, none⟩ = some (.int .i64 a0_5) := (blk_cell BK107.out 5).trans rfl; have hfz25_0 := blk_frozen BK107.out 0; have hfz25_1 := blk_frozen BK107.out 1; have hfz25_2 := blk_frozen BK107.out 2; have hfz25_3 := blk_frozen BK107.out 3; have hfz25_4 := blk_frozen BK107.out 4; have hfz25_5 := blk_frozen BK107.out 5))
                  go_ret
                  exact ⟨by first | rfl | (simp [errW_none, errW_some] <;> rfl) | (simp [*, errW_none, errW_some] <;> rfl), by repeat (first | (with_reducible first | exact HB.out | apply below_alloc | apply pw_below_drewN | apply below_drew1 | refine below_set ?_ GE107.out) | exact HB.out)⟩
                · replace c23 := Bool.eq_false_iff.mpr c23
                  subst c23
                  have H1 : (some false) = some r := by rw [if_neg (show ¬ (false = true) by decide)] at H; exact H
                  clear H
                  have H := H1
                  clear H1
                  obtain rfl := Option.some.inj H
                  go_enter Tryd.func19, Tryd.ntmps19
                  go_wp2_with (first | ((with_reducible refine gate_dst (N := 1) rfl ?_); refine box_event ?hg (N := 1) ?hd (cs := #[.string a0_0, .string a0_1, .bool false, .int .i64 a0_3, .int .i64 a0_4, .int .i64 a0_5]) (t := 35) ?hr ?_; (case hd => rfl); (case hg => rfl); (case hr => first | (go_simp; done) | (go_simp; rfl)); intro gb107 hg w26 hbox hb; have n0_ := Aside0.mk (below_step (by repeat (first | (with_reducible first | exact HB.out | apply below_alloc | apply pw_below_drewN | apply below_drew1) | exact HB.out)) hb); have n1_ := Aside0.mk (hbox); have n2_ := Aside0.mk ((by rw [hg]; exact (below_size (by repeat (first | (with_reducible first | exact HB.out | apply below_alloc | apply pw_below_drewN | apply below_drew1) | exact HB.out))) : w.heap.size ≤ gb107)); have n3_ := Aside0.mk ((by rw [hg]; exact (below_size (by repeat (first | (with_reducible first | exact HB.out | apply below_alloc | apply pw_below_drewN | apply below_drew1) | exact HB.out))) : w.heap.size ≤ gb107)); clear HB; have HB := n0_; have BK107 := n1_; have GW107 := n2_; have GE107 := n3_; clear n0_ n1_ n2_ n3_; clear hb hbox hg; have hcz27_0 : w26.cell? ⟨gb107, 0, none⟩ = some (.string a0_0) := (blk_cell BK107.out 0).trans rfl; have hcz27_1 : w26.cell? ⟨gb107, 1, none⟩ = some (.string a0_1) := (blk_cell BK107.out 1).trans rfl; have hcz27_2 : w26.cell? ⟨gb107, 2, none⟩ = some (.bool false) := (blk_cell BK107.out 2).trans rfl; have hcz27_3 : w26.cell? ⟨gb107, 3, none⟩ = some (.int .i64 a0_3) := (blk_cell BK107.out 3).trans rfl; have hcz27_4 : w26.cell? ⟨gb107, 4, none⟩ = some (.int .i64 a0_4) := (blk_cell BK107.out 4).trans rfl; have hcz27_5 : w26.cell? ⟨gb107, 5, none⟩ = some (.int .i64 a0_5) := (blk_cell BK107.out 5).trans rfl; have hfz27_0 := blk_frozen BK107.out 0; have hfz27_1 := blk_frozen BK107.out 1; have hfz27_2 := blk_frozen BK107.out 2; have hfz27_3 := blk_frozen BK107.out 3; have hfz27_4 := blk_frozen BK107.out 4; have hfz27_5 := blk_frozen BK107.out 5))
                  go_ret
                  exact ⟨by first | rfl | (simp [errW_none, errW_some] <;> rfl) | (simp [*, errW_none, errW_some] <;> rfl), by repeat (first | (with_reducible first | exact HB.out | apply below_alloc | apply pw_below_drewN | apply below_drew1 | refine below_set ?_ GE107.out) | exact HB.out)⟩

-- NOT PRINTED: function 32 (api_Style)

/-! ### style_find: function 30 -/
/-- the first style of that ID -/
def style_find.at_ (l : List S35) (id : ByteArray) : Option S35 := l.find? (fun s => s.f0.toList == id.toList)
def style_find.q (id : ByteArray) (s : S35) : Bool := s.f0.toList == id.toList
def style_find.ix (id : ByteArray) : List S35 → Option Nat
  | [] => none
  | x :: r => if style_find.q id x = true then some 0 else (style_find.ix id r).map (· + 1)
def style_find.ret (o : Option Nat) : Int := match o with
  | some k => (k : Int)
  | none => -1
theorem style_find.hit (id : ByteArray) : ∀ (l : List S35) (k : Nat), k < l.length → style_find.q id (l.getD k z35) = true → (∀ j, j < k → style_find.q id (l.getD j z35) = false) → style_find.ix id l = some k
  | [], k, h, _, _ => absurd h (Nat.not_lt_zero _)
  | x :: r, 0, _, h, _ => by rw [List.getD_cons_zero] at h; rw [style_find.ix, if_pos h]
  | x :: r, k + 1, hk, h, hA => by
    have h0 := hA 0 (Nat.succ_pos _)
    rw [List.getD_cons_zero] at h0
    rw [List.getD_cons_succ] at h
    rw [style_find.ix, if_neg (by rw [h0]; simp), style_find.hit id r k (by simpa using hk) h (fun j hj => by have := hA (j + 1) (by omega); rwa [List.getD_cons_succ] at this)]
    rfl
theorem style_find.miss (id : ByteArray) : ∀ (l : List S35), (∀ j, j < l.length → style_find.q id (l.getD j z35) = false) → style_find.ix id l = none
  | [], _ => rfl
  | x :: r, hA => by
    have h0 := hA 0 (by simp)
    rw [List.getD_cons_zero] at h0
    rw [style_find.ix, if_neg (by rw [h0]; simp), style_find.miss id r (fun j hj => by have := hA (j + 1) (by simpa using hj); rwa [List.getD_cons_succ] at this)]
    rfl
theorem style_find.at_some (id : ByteArray) : ∀ (l : List S35) (k : Nat), style_find.ix id l = some k → k < l.length ∧ style_find.at_ l id = some (l.getD k z35)
  | [], k, h => by cases h
  | x :: r, k, h => by
    rw [style_find.ix] at h
    unfold style_find.at_
    split at h
    · rename_i hq
      obtain rfl := Option.some.inj h
      exact ⟨by simp, List.find?_cons_of_pos hq⟩
    · rename_i hq
      cases hi : style_find.ix id r with
      | none => rw [hi] at h; cases h
      | some k' =>
        rw [hi] at h
        obtain rfl := Option.some.inj h
        have := style_find.at_some id r k' hi
        unfold style_find.at_ at this
        exact ⟨by simpa using this.1, by rw [List.find?_cons_of_neg (by simpa [style_find.q] using hq), this.2, List.getD_cons_succ]⟩
theorem style_find.at_none (id : ByteArray) : ∀ (l : List S35), style_find.ix id l = none → style_find.at_ l id = none
  | [], h => rfl
  | x :: r, h => by
    rw [style_find.ix] at h
    unfold style_find.at_
    split at h
    · cases h
    · rename_i hq
      rw [List.find?_cons_of_neg (by simpa [style_find.q] using hq)]
      refine style_find.at_none id r ?_
      cases hi : style_find.ix id r with
      | none => rfl
      | some k' => rw [hi] at h; cases h
/-- a style's six cells lie behind a pointer -/
def style_find.Pt (w : World) (p : Option Addr) (x : S35) : Prop := ∃ ad : Addr, p = some ad ∧ w.cell? ad = some (.string x.f0) ∧ w.cell? ⟨ad.block, ad.off + 1, none⟩ = some (.string x.f1) ∧ w.cell? ⟨ad.block, ad.off + 2, none⟩ = some (.bool x.f2) ∧ w.cell? ⟨ad.block, ad.off + 3, none⟩ = some (.int .i64 x.f3) ∧ w.cell? ⟨ad.block, ad.off + 4, none⟩ = some (.int .i64 x.f4) ∧ w.cell? ⟨ad.block, ad.off + 5, none⟩ = some (.int .i64 x.f5)
theorem style_find.lt_of_cell {w : World} {p : Addr} {v : Value} (h : w.cell? p = some v) : p.block < w.heap.size := World.block_lt_of_cell? w _ h
theorem style_find.cell_below {w W : World} (hb : Below w.heap.size w W) {p : Addr} {v : Value} (h : w.cell? p = some v) : W.cell? p = some v :=
  (hb.cell (p := p) (style_find.lt_of_cell h)).trans h
theorem style_find.Pt.below {w W : World} (hb : Below w.heap.size w W) {p : Option Addr} {x : S35} (h : style_find.Pt w p x) : style_find.Pt W p x := by
  obtain ⟨ad, e, h0, h1, h2, h3, h4, h5⟩ := h
  exact ⟨ad, e, style_find.cell_below hb h0, style_find.cell_below hb h1, style_find.cell_below hb h2, style_find.cell_below hb h3, style_find.cell_below hb h4, style_find.cell_below hb h5⟩
def style_find.Po (w : World) (p : Option Addr) : Option S35 → Prop
  | none => p = none
  | some x => style_find.Pt w p x
/-- the literal: does a style bear the ID? -/
theorem style_find.lit (B : Nat) (id : ByteArray) (x : S35) (w : World) (hc : w.cell? ⟨B, 0, none⟩ = some (.string id)) :
    Calls Tryd.prog 33 #[.agg #[.string x.f0, .string x.f1, .bool x.f2, .int .i64 x.f3, .int .i64 x.f4, .int .i64 x.f5], .pointer (some ⟨B, 0, none⟩)] w fun e w' => e = .returned (.bool (x.f0.toList == id.toList)) ∧ Below w.heap.size w w' := by
  have hB := style_find.lt_of_cell hc
  go_enter Tryd.func33, Tryd.ntmps33
  go_wp2
  go_ret
  exact ⟨rfl, by repeat (first | (with_reducible first | exact Below.refl _ _ | apply below_alloc | apply pw_below_drewN | apply below_drew1) | exact Below.refl _ _)⟩
set_option maxHeartbeats 4000000 in
theorem style_find.index (A0 : Option Addr) (c0 : Nat) (l0 : List S35) (B : Nat) (id : ByteArray) (w : World) (hr0 : Kd.C k35 w A0 l0.length l0) (hn : l0.length ≤ 9223372036854775807) (hc : w.cell? ⟨B, 0, none⟩ = some (.string id)) :
    Calls Tryd.prog 32 #[.slice A0 l0.length c0, .func (.func 33) #[] #[.pointer (some ⟨B, 0, none⟩)]] w fun e w' => e = .returned (.int .i64 (style_find.ret (style_find.ix id l0))) ∧ Below w.heap.size w w' := by
  have hu35 := Tryd.underlying35
  have HR0 := Aside0.mk hr0
  have HC := Aside0.mk hc
  clear hr0 hc
  go_enter Tryd.func32, Tryd.ntmps32
  go_wp2
  go_loopg [5, 8] l0.length (fun gg _ s8 wr => ∃ kk : Nat, kk ≤ l0.length ∧ l0.length - kk ≤ gg ∧ s8 = .int .i64 kk ∧ Aside0 (Below w.heap.size w wr) ∧ Aside0 (∀ j, j < kk → ((l0.getD j z35).f0.toList == id.toList) = false))
  case atStart => exact ⟨0, Nat.zero_le _, by omega, rfl, ⟨Below.refl _ w⟩, ⟨fun j hj => absurd hj (Nat.not_lt_zero _)⟩⟩
  case round =>
    obtain ⟨kk, hkk, hg, rfl, BW, A⟩ := hrel
    by_cases hlt : kk < l0.length
    · have hltz : (kk : Int) < (l0.length : Int) := by omega
      obtain ⟨ad, e, h0, h1, h2, h3, h4, h5⟩ := at_T35 (Kd.C_below HR0.out BW.out) kk (by omega) hltz
      cases e
      simp only [Int.toNat_natCast] at h0 h1 h2 h3 h4 h5
      have hcall := fun W1 hW1 => style_find.lit B id (rd_T35 l0 kk) W1 (style_find.cell_below hW1 (style_find.cell_below BW.out HC.out))
      have hrd : rd_T35 l0 kk = l0.getD kk z35 := by unfold rd_T35; rw [Int.toNat_natCast]
      obtain ⟨x, hx⟩ : ∃ x, rd_T35 l0 kk = x := ⟨_, rfl⟩
      rw [hx] at hcall h0 h1 h2 h3 h4 h5 hrd
      have HX := Aside0.mk hrd
      clear hrd hx
      cases hq : (x.f0.toList == id.toList) with
      | true =>
        rw [hq] at hcall
        go_wp2_with (go_at_call 33; refine (hcall _ (by repeat (first | (with_reducible first | exact Below.refl _ _ | apply below_alloc | apply pw_below_drewN | apply below_drew1) | exact Below.refl _ _))).mono ?_; rintro e w' ⟨rfl, hb'⟩)
        go_ret
        refine ⟨?_, ?_⟩
        · rw [style_find.hit id l0 kk hlt (by rw [← HX.out]; exact hq) A.out]
          rfl
        · exact below_step (by repeat (first | (with_reducible first | exact BW.out | apply below_alloc | apply pw_below_drewN | apply below_drew1) | exact BW.out)) hb'
      | false =>
        rw [hq] at hcall
        go_wp2_with (go_at_call 33; refine (hcall _ (by repeat (first | (with_reducible first | exact Below.refl _ _ | apply below_alloc | apply pw_below_drewN | apply below_drew1) | exact Below.refl _ _))).mono ?_; rintro e w' ⟨rfl, hb'⟩)
        go_roundg (l0.length - (kk + 1))
        case measure => omega
        case rel =>
          refine ⟨kk + 1, by omega, by omega, by go_num, ⟨below_step (by repeat (first | (with_reducible first | exact BW.out | apply below_alloc | apply pw_below_drewN | apply below_drew1) | exact BW.out)) hb'⟩, ⟨fun j hj => ?_⟩⟩
          by_cases e : j = kk
          · subst e
            rw [← HX.out]; exact hq
          · exact A.out j (by omega)
    · have hltz : ¬ (kk : Int) < (l0.length : Int) := by omega
      have : kk = l0.length := by omega
      subst this
      go_wp2
      go_ret
      refine ⟨?_, BW.out⟩
      rw [style_find.miss id l0 A.out]
      rfl
set_option maxHeartbeats 4000000 in
/-- find: where the first style of that ID lies -/
theorem style_find.calls (A0 : Option Addr) (c0 : Nat) (l0 : List S35) (id : ByteArray) (w : World) (hr0 : Kd.C k35 w A0 l0.length l0) (hn : l0.length ≤ 9223372036854775807) :
    Calls Tryd.prog 30 #[.slice A0 l0.length c0, .string id] w fun e w' => (∃ p : Option Addr, e = .returned (.pointer p) ∧ style_find.Po w' p (style_find.at_ l0 id)) ∧ Below w.heap.size w w' := by
  have HR0 := Aside0.mk hr0
  clear hr0
  have HI := fun W1 hW1 hc1 => style_find.index A0 c0 l0 w.heap.size id W1 (Kd.C_below HR0.out hW1) hn hc1
  cases hix : style_find.ix id l0 with
  | none =>
    rw [hix] at HI
    have HN := Aside0.mk (style_find.at_none id l0 hix)
    clear hix
    unfold style_find.ret at HI
    go_enter Tryd.func30, Tryd.ntmps30
    go_wp2_with (go_at_call 32; refine (HI _ (by repeat (first | (with_reducible first | exact Below.refl _ _ | apply below_alloc | apply pw_below_drewN | apply below_drew1) | exact Below.refl _ _)) (by simp)).mono ?_; rintro e w2 ⟨rfl, hb'⟩)
    go_ret
    refine ⟨⟨none, rfl, by rw [HN.out]; rfl⟩, ?_⟩
    exact below_step (by repeat (first | (with_reducible first | exact Below.refl _ _ | apply below_alloc | apply pw_below_drewN | apply below_drew1) | exact Below.refl _ _)) hb'
  | some i =>
    rw [hix] at HI
    have HN := Aside0.mk (style_find.at_some id l0 i hix)
    have hi := HN.out.1
    clear hix
    unfold style_find.ret at HI
    simp only at HI
    obtain ⟨ad, e, h0, h1, h2, h3, h4, h5⟩ := at_T35 HR0.out i (by omega) (by omega)
    cases e
    have HP : style_find.Pt w (some (ad.add (i * 6))) (l0.getD i z35) := ⟨_, rfl, h0, h1, h2, h3, h4, h5⟩
    clear h0 h1 h2 h3 h4 h5
    have hi1 : (i : Int) < (l0.length : Int) := by omega
    have hi2 : ¬ (i : Int) < 0 := by omega
    go_enter Tryd.func30, Tryd.ntmps30
    go_wp2_with (go_at_call 32; refine (HI _ (by repeat (first | (with_reducible first | exact Below.refl _ _ | apply below_alloc | apply pw_below_drewN | apply below_drew1) | exact Below.refl _ _)) (by simp)).mono ?_; rintro e w2 ⟨rfl, hb'⟩)
    go_ret
    refine ⟨⟨_, rfl, ?_⟩, ?_⟩
    · rw [HN.out.2]
      exact style_find.Pt.below (below_step (by repeat (first | (with_reducible first | exact Below.refl _ _ | apply below_alloc | apply pw_below_drewN | apply below_drew1) | exact Below.refl _ _)) hb') HP
    · exact below_step (by repeat (first | (with_reducible first | exact Below.refl _ _ | apply below_alloc | apply pw_below_drewN | apply below_drew1) | exact Below.refl _ _)) hb'

/-! ### style_based: function 20 -/
def style_based.go (l : List S35) (s : S35) : Nat → S35 → Int
  | 0, _ => 0
  | n + 1, x => if x.f1.toList = ([] : List UInt8) then 0 else match style_find.at_ l x.f1 with
    | none => 0
    | some y => if ((x.f0.toList == s.f0.toList) && (y.f2 != s.f2) || (y.f0.toList == s.f0.toList)) = true then 16 else style_based.go l s n y
set_option maxHeartbeats 8000000 in
set_option maxRecDepth 100000 in
theorem style_based.calls (A0 : Option Addr) (c0 : Nat) (l0 : List S35) (s : S35) (w : World) (hr0 : Kd.C k35 w A0 l0.length l0) (hn : l0.length ≤ 9223372036854775807) :
    Calls Tryd.prog 20 #[.slice A0 l0.length c0, .agg #[.string s.f0, .string s.f1, .bool s.f2, .int .i64 s.f3, .int .i64 s.f4, .int .i64 s.f5]] w fun e w' => e = .returned (.int .i64 (style_based.go l0 s l0.length s)) ∧ Below w.heap.size w w' := by
  have hu35 := Tryd.underlying35
  have HR0 := Aside0.mk hr0
  clear hr0
  have HI := Aside0.mk (fun id W1 hW1 => style_find.calls A0 c0 l0 id W1 (Kd.C_below HR0.out hW1) hn)
  go_enter Tryd.func20, Tryd.ntmps20
  go_wp2
  obtain ⟨w1, hw1⟩ : ∃ w1, w1 = w.alloc (.cells #[.string s.f0, .string s.f1, .bool s.f2, .int .i64 s.f3, .int .i64 s.f4, .int .i64 s.f5] 35) := ⟨_, rfl⟩
  have HB1 : Aside0 (Below w.heap.size w w1) := ⟨by rw [hw1]; exact below_alloc (Below.refl _ _) _⟩
  have HS : Aside0 (style_find.Pt w1 (some ⟨w.heap.size, 0, none⟩) s) := ⟨by rw [hw1]; exact ⟨_, rfl, by simp, by simp, by simp, by simp, by simp, by simp⟩⟩
  try rw [← hw1]
  have HW1 := Aside0.mk hw1
  clear hw1
  go_loopg [5, 6, 9] l0.length (fun gg v5 _ v9 wr => ∃ (kk : Nat) (p : Option Addr) (x : S35), kk ≤ l0.length ∧ l0.length - kk ≤ gg ∧ v9 = .int .i64 kk ∧ v5 = .pointer p ∧ Aside0 (style_find.Pt wr p x) ∧ Aside0 (Below w1.heap.size w1 wr) ∧ Aside0 (style_based.go l0 s l0.length s = style_based.go l0 s (l0.length - kk) x))
  case atStart => exact ⟨0, _, s, Nat.zero_le _, by omega, rfl, rfl, HS, ⟨Below.refl _ _⟩, ⟨rfl⟩⟩
  case round =>
    obtain ⟨kk, p, x, hkk, hg, rfl, rfl, HX, HB, HG⟩ := hrel
    by_cases hlt : kk < l0.length
    case neg =>
      have hltz : ¬ (kk : Int) < (l0.length : Int) := by omega
      have : kk = l0.length := by omega
      subst this
      go_wp2
      go_ret
      refine ⟨?_, below_step HB1.out HB.out⟩
      rw [HG.out, Nat.sub_self, style_based.go]
      rfl
    have hltz : (kk : Int) < (l0.length : Int) := by omega
    obtain ⟨ad, e, a0, a1, a2, a3, a4, a5⟩ := HX.out
    cases e
    obtain ⟨_, e, s0, s1, s2, s3, s4, s5⟩ := style_find.Pt.below HB.out HS.out
    cases e
    simp only [Nat.zero_add] at s1 s2 s3 s4 s5
    have hcall := HI.out x.f1 wr (below_step HB1.out HB.out)
    obtain ⟨m, hm⟩ : ∃ m, l0.length - kk = m + 1 := ⟨l0.length - kk - 1, by omega⟩
    have G := HG.out
    rw [hm, style_based.go] at G
    by_cases e1 : x.f1.toList = ([] : List UInt8)
    · rw [if_pos e1] at G
      have G' := Aside0.mk G
      have HG2 := HG
      clear G HG
      have e1b : (x.f1.toList == ([] : List UInt8)) = true := beq_iff_eq.mpr e1
      clear e1
      go_wp2_with (go_at_call 30; refine hcall.mono ?_; rintro e w2 ⟨⟨p2, rfl, hp2⟩, hb2⟩; have b1 := style_find.cell_below hb2 a1)
      go_ret
      exact ⟨by rw [G'.out]; rfl, below_step (below_step HB1.out HB.out) hb2⟩
    rw [if_neg e1] at G
    have e1b : (x.f1.toList == ([] : List UInt8)) = false := beq_eq_false_iff_ne.mpr e1
    clear e1
    cases hat : style_find.at_ l0 x.f1 with
    | none =>
      rw [hat] at G hcall
      have G' := Aside0.mk G
      clear G HG
      go_wp2_with (go_at_call 30; refine hcall.mono ?_; rintro e w2 ⟨⟨p2, rfl, hp2⟩, hb2⟩; have b1 := style_find.cell_below hb2 a1; cases hp2)
      go_ret
      exact ⟨by rw [G'.out]; rfl, below_step (below_step HB1.out HB.out) hb2⟩
    | some y =>
      rw [hat] at G hcall
      simp only at G
      have HY : Aside0 (x.f0.toList = x.f0.toList) := ⟨rfl⟩
      obtain ⟨d1, hd1⟩ : ∃ d1, (x.f0.toList == s.f0.toList) = d1 := ⟨_, rfl⟩
      obtain ⟨d2, hd2⟩ : ∃ d2, (y.f2 != s.f2) = d2 := ⟨_, rfl⟩
      obtain ⟨d3, hd3⟩ : ∃ d3, (y.f0.toList == s.f0.toList) = d3 := ⟨_, rfl⟩
      rw [hd1, hd2, hd3] at G
      have hd2b : (y.f2 == s.f2) = !d2 := by rw [← hd2, bne, Bool.not_not]
      have hd2c : decide (y.f2 = s.f2) = !d2 := by rw [← hd2b]; rfl
      have G' := Aside0.mk G
      clear G HG
      cases d1 <;> cases d2 <;> cases d3 <;> (try simp only [Bool.not_true, Bool.not_false] at hd2b) <;> (try simp only [Bool.not_true, Bool.not_false] at hd2c)
      all_goals
        go_wp2_with (go_at_call 30; refine hcall.mono ?_; rintro e w2 ⟨⟨p2, rfl, hp2⟩, hb2⟩; have b0 := style_find.cell_below hb2 a0; have b1 := style_find.cell_below hb2 a1; have t0 := style_find.cell_below hb2 s0; have t2 := style_find.cell_below hb2 s2; obtain ⟨ad2, e2_, y0, y1, y2, y3, y4, y5⟩ := hp2; cases e2_)
        repeat (go_quiet (fail); try go_wp2)
        first
        | (go_ret
           exact ⟨by rw [G'.out]; rfl, by repeat (first | (with_reducible first | exact (below_step (below_step HB1.out HB.out) hb2) | apply below_alloc | apply pw_below_drewN | apply below_drew1) | exact (below_step (below_step HB1.out HB.out) hb2))⟩)
        | (go_roundg (l0.length - (kk + 1))
           case measure => omega
           case rel => exact ⟨kk + 1, _, y, by omega, by omega, by go_num, rfl, ⟨style_find.Pt.below (by repeat (first | (with_reducible first | exact (Below.refl _ _) | apply below_alloc | apply pw_below_drewN | apply below_drew1) | exact (Below.refl _ _))) ⟨_, rfl, y0, y1, y2, y3, y4, y5⟩⟩, ⟨by repeat (first | (with_reducible first | exact (below_step HB.out hb2) | apply below_alloc | apply pw_below_drewN | apply below_drew1) | exact (below_step HB.out hb2))⟩, ⟨by rw [G'.out, show l0.length - (kk + 1) = m by omega]; rfl⟩⟩)

/-! ### style_Check: function 9 -/
open Go.Maps in
theorem style_Check.law : Keyed Tryd.prog 9 := string_keyed Tryd.underlying9
theorem style_Check.zero3 (w : World) : (zeroValue 3).run Tryd.prog w = .ok (.int .i64 0) w := by kernel_rfl
/-- what the names' map holds after so many rounds -/
def style_Check.ids (l : List S35) : Nat → ByteArray → Int
  | 0, _ => 0
  | k + 1, id => if id.data.toList = (l.getD k z35).f0.data.toList then (k : Int) + 1 else style_Check.ids l k id
def style_Check.alone (s : S35) : Bool := match style_alone.f s.f0 s.f1 s.f2 s.f3 s.f4 s.f5 with
  | some b => b
  | none => false
/-- a list's first place at which something is said -/
def style_Check.first (q : Nat → Option (Int × Int)) : Nat → Nat → Option (Int × Int)
  | 0, _ => none
  | n + 1, k => match q k with
    | some r => some r
    | none => style_Check.first q n (k + 1)
def style_Check.q1 (l : List S35) (k : Nat) : Option (Int × Int) := if style_Check.alone (l.getD k z35) = true then some (k, 1) else if style_Check.ids l k (l.getD k z35).f0 > 0 then some (k, 8) else none
def style_Check.q2 (l : List S35) (k : Nat) : Option (Int × Int) := if (l.getD k z35).f1.toList ≠ ([] : List UInt8) ∧ style_Check.ids l l.length (l.getD k z35).f1 = 0 then some (k, 7) else none
def style_Check.q3 (l : List S35) (k : Nat) : Option (Int × Int) := if style_based.go l (l.getD k z35) l.length (l.getD k z35) ≠ 0 then some (k, style_based.go l (l.getD k z35) l.length (l.getD k z35)) else none
def style_Check.res (l : List S35) : Int × Int := match style_Check.first (style_Check.q1 l) l.length 0 with
  | some r => r
  | none => match style_Check.first (style_Check.q2 l) l.length 0 with
    | some r => r
    | none => match style_Check.first (style_Check.q3 l) l.length 0 with
      | some r => r
      | none => (-1, 0)
def style_Check.f (l0 : List S35) : Option (Int × Int) := if l0.length ≤ 1000000 then (if (l0.all (fun s => decide (s.f0.size ≤ 140737488351232) && decide (s.f1.size ≤ 140737488351232))) = true then some (style_Check.res l0) else none) else none
def style_Check.Ids (l : List S35) (b kk : Nat) (W : World) : Prop := ∃ D : DataW Unit, W.ownsMap Tryd.prog 9 (plainElem Tryd.prog 3) b kk D ∧ Maps.IsMap D ∧ ∀ id : ByteArray, D.atKey (.string id.data.toList) (.lit (.int .i64 0)) = .lit (.int .i64 (style_Check.ids l kk id))
theorem style_Check.alone_f (s : S35) : style_alone.f s.f0 s.f1 s.f2 s.f3 s.f4 s.f5 = some (style_Check.alone s) := by
  unfold style_Check.alone
  cases h : style_alone.f s.f0 s.f1 s.f2 s.f3 s.f4 s.f5 with
  | some b => rfl
  | none =>
    exfalso
    revert h
    unfold style_alone.f
    repeat (split <;> try (intro h; cases h))
theorem style_Check.key (s : ByteArray) (h : s.size ≤ 140737488351232) : Go.keyOf Tryd.prog 9 (.string s) = some (.string s.data.toList) := WideMaps.keyOf_string_mk Tryd.underlying9 (Nat.le_trans h (by decide))
theorem style_Check.own_keep {b n : Nat} {w W : World} {D : DataW Unit} (h : w.ownsMap Tryd.prog 9 (plainElem Tryd.prog 3) b n D) (e : W.heap[b]? = w.heap[b]?) : W.ownsMap Tryd.prog 9 (plainElem Tryd.prog 3) b n D := by
  obtain ⟨es, clock, hb, r⟩ := h
  exact ⟨es, clock, e.trans hb, r⟩
theorem style_Check.Ids.keep {l : List S35} {b kk : Nat} {w W : World} (h : style_Check.Ids l b kk w) (e : W.heap[b]? = w.heap[b]?) : style_Check.Ids l b kk W := by
  obtain ⟨D, ⟨es, clock, hb, r⟩, hD⟩ := h
  exact ⟨D, ⟨es, clock, e.trans hb, r⟩, hD⟩
theorem style_Check.Ids.lt {l : List S35} {b kk : Nat} {w : World} (h : style_Check.Ids l b kk w) : b < w.heap.size := by
  obtain ⟨D, ho, _⟩ := h
  exact ho.lt
theorem style_Check.Ids.below {l : List S35} {b kk : Nat} {w W : World} (h : style_Check.Ids l b kk w) (hb : Below w.heap.size w W) : style_Check.Ids l b kk W := h.keep (hb.block b h.lt)
theorem style_Check.Ids.put {l : List S35} {b kk : Nat} {w : World} {D : DataW Unit} (hD : Maps.IsMap D) (hat : ∀ id : ByteArray, D.atKey (.string id.data.toList) (.lit (.int .i64 0)) = .lit (.int .i64 (style_Check.ids l kk id)))
    (ho : w.ownsMap Tryd.prog 9 (plainElem Tryd.prog 3) b (kk + 1) (D.put (.string (l.getD kk z35).f0.data.toList) (.lit (.int .i64 ((kk : Int) + 1))))) : style_Check.Ids l b (kk + 1) w := by
  refine ⟨_, ho, hD.put _ _, fun id => ?_⟩
  rw [style_Check.ids]
  split
  · rename_i e
    rw [e]
    exact Maps.atKey_put_same hD (by first | exact rfl | trivial | decide | (unfold WideAt.IsKeyLit; simp)) _ _
  · rename_i e
    rw [Maps.atKey_put_other (by intro h; injection h with h; exact e h)]
    exact hat id
set_option maxHeartbeats 8000000 in
set_option maxRecDepth 100000 in
theorem style_Check.calls (A0 : Option Addr) (c0 : Nat) (l0 : List (S35)) (r1 : Int) (r2 : Int) (w : World) (hr0 : Kd.C k35 w A0 l0.length l0) (hc0 : l0.length ≤ c0) (h : style_Check.f l0 = some (r1, r2)) :
    Calls Tryd.prog 9 #[.slice A0 l0.length c0] w fun e w' => e = .returned (.tuple #[.int .i64 r1, .int .i64 r2]) ∧ Below w.heap.size w w' := by
  unfold style_Check.f at h
  by_cases hn : l0.length ≤ 1000000
  case neg => rw [if_neg hn] at h; cases h
  rw [if_pos hn] at h
  by_cases hz : (l0.all (fun s => decide (s.f0.size ≤ 140737488351232) && decide (s.f1.size ≤ 140737488351232))) = true
  case neg => rw [if_neg hz] at h; cases h
  rw [if_pos hz] at h
  have hres := Aside0.mk (Option.some.inj h)
  clear h
  have hsz : Aside0 (∀ k, k < l0.length → (l0.getD k z35).f0.size ≤ 140737488351232 ∧ (l0.getD k z35).f1.size ≤ 140737488351232) := ⟨fun k hk => by
    have := List.all_eq_true.1 hz (l0[k]) (List.getElem_mem hk)
    rw [List.getD, List.getElem?_eq_getElem hk, Option.getD_some]
    simpa using this⟩
  clear hz
  have hu35 := Tryd.underlying35
  have hmm := @run_makeMap Tryd.prog
  have HR0 := Aside0.mk hr0
  clear hr0 hc0
  go_enter Tryd.func9, Tryd.ntmps9
  go_wp2
  go_loopg [15] l0.length (fun gg v15 wr => ∃ kk : Nat, kk ≤ l0.length ∧ l0.length - kk ≤ gg ∧ v15 = .int .i64 kk ∧ Aside0 (Below w.heap.size w wr) ∧ Aside0 (style_Check.Ids l0 w.heap.size kk wr) ∧ Aside0 (style_Check.first (style_Check.q1 l0) l0.length 0 = style_Check.first (style_Check.q1 l0) (l0.length - kk) kk))
  case atStart => exact ⟨0, Nat.zero_le _, by omega, rfl, ⟨below_alloc (Below.refl _ _) _⟩, ⟨⟨_, World.ownsMap_made _ _ _ _, Maps.isMap_empty, fun _ => rfl⟩⟩, ⟨rfl⟩⟩
  case round =>
    obtain ⟨kk, hkk, hg, rfl, HB, HM, HG⟩ := hrel
    by_cases hlt : kk < l0.length
    case pos =>
      have hltz : (kk : Int) < (l0.length : Int) := by omega
      obtain ⟨ad, e, h0, h1, h2, h3, h4, h5⟩ := at_T35 (Kd.C_below HR0.out HB.out) kk (by omega) hltz
      cases e
      simp only [Int.toNat_natCast] at h0 h1 h2 h3 h4 h5
      have hrd : rd_T35 l0 kk = l0.getD kk z35 := by unfold rd_T35; rw [Int.toNat_natCast]
      rw [hrd] at h0 h1 h2 h3 h4 h5
      obtain ⟨x, hx⟩ : ∃ x, l0.getD kk z35 = x := ⟨_, rfl⟩
      rw [hx] at h0 h1 h2 h3 h4 h5
      have HX := Aside0.mk hx
      clear hrd hx
      have hx0 := (hsz.out kk hlt).1
      rw [HX.out] at hx0
      obtain ⟨D, ho, hD, hat0⟩ := HM.out
      obtain ⟨v, hv⟩ : ∃ v, style_Check.ids l0 kk x.f0 = v := ⟨_, rfl⟩
      have hatx := hat0 x.f0
      rw [hv] at hatx
      have HAT := Aside0.mk hat0
      clear hat0
      have hkl : kk < maxLen := by have : (1000000 : Nat) < maxLen := by decide
                                   omega
      have hwf : (Lit.int .i64 ((kk : Int) + 1)).wf = true := by
        have h1 := wrap64_wf ((kk : Int) + 1)
        rwa [show wrap64 ((kk : Int) + 1) = (kk : Int) + 1 by unfold wrap64; omega] at h1
      go_upto_region 5 with (fail)
      have HB5 : Aside0 (Below w.heap.size w (wr.alloc (.cells #[.string x.f0, .string x.f1, .bool x.f2, .int .i64 x.f3, .int .i64 x.f4, .int .i64 x.f5] 35))) := ⟨below_alloc HB.out _⟩
      have ho5 := ho.alloc (.cells #[.string x.f0, .string x.f1, .bool x.f2, .int .i64 x.f3, .int .i64 x.f4, .int .i64 x.f5] 35)
      have hp5 : style_find.Pt (wr.alloc (.cells #[.string x.f0, .string x.f1, .bool x.f2, .int .i64 x.f3, .int .i64 x.f4, .int .i64 x.f5] 35)) (some ⟨wr.heap.size, 0, none⟩) x := ⟨_, rfl, by simp, by simp, by simp, by simp, by simp, by simp⟩
      generalize wr.alloc (.cells #[.string x.f0, .string x.f1, .bool x.f2, .int .i64 x.f3, .int .i64 x.f4, .int .i64 x.f5] 35) = w5 at HB5 ho5 hp5 ⊢
      have HP5 := Aside0.mk hp5
      obtain ⟨_, e, p0, p1, p2, p3, p4, p5⟩ := hp5
      cases e
      simp only [Nat.zero_add] at p1 p2 p3 p4 p5
      clear h0 h1 h2 h3 h4 h5 ho
      have hcall := style_alone.calls x.f0 x.f1 x.f2 x.f3 x.f4 x.f5 (style_Check.alone x) w5 (style_Check.alone_f x)
      obtain ⟨m, hm⟩ : ∃ m, l0.length - kk = m + 1 := ⟨l0.length - kk - 1, by omega⟩
      have G := HG.out
      rw [hm, style_Check.first, style_Check.q1, HX.out, hv] at G
      cases hal : style_Check.alone x with
      | true =>
        rw [hal] at hcall G
        rw [if_pos rfl] at G
        have G' := Aside0.mk G
        clear G HG
        go_wp2_with (go_at_call 19; refine hcall.mono ?_; rintro e w6 ⟨rfl, hb6⟩)
        go_ret2
        have hr := hres.out
        unfold style_Check.res at hr
        rw [G'.out] at hr
        simp only [Prod.mk.injEq] at hr
        obtain ⟨rfl, rfl⟩ := hr
        exact ⟨rfl, below_step HB5.out hb6⟩
      | false =>
        rw [hal] at hcall G
        rw [if_neg (by decide)] at G
        by_cases hv0 : v > 0
        · rw [if_pos hv0] at G
          have G' := Aside0.mk G
          clear G HG
          have hv0b : decide (0 < v) = true := decide_eq_true hv0
          clear hv0 hv
          go_wp2_with (first | (go_at_call 19; refine hcall.mono ?_; rintro e w6 ⟨rfl, hb6⟩; have ho6 := style_Check.own_keep ho5 (hb6.block _ ho5.lt); have q0 := style_find.cell_below hb6 p0) | (at_lookup; refine wpList_lookup_own_int (H := Unit) _ rfl _ _ 42 rfl 9 3 .i64 style_Check.law Tryd.underlying42 Tryd.underlying3 (style_Check.zero3 _) w.heap.size kk D rfl ho6 _ _ rfl (style_Check.key x.f0 hx0) ?_; intro c hat hwc; have hc := hat.symm.trans hatx; injection hc with hc; injection hc with _ hc; subst hc))
          go_ret2
          have hr := hres.out
          unfold style_Check.res at hr
          rw [G'.out] at hr
          simp only [Prod.mk.injEq] at hr
          obtain ⟨rfl, rfl⟩ := hr
          exact ⟨rfl, below_step HB5.out hb6⟩
        · rw [if_neg hv0] at G
          have G' := Aside0.mk G
          clear G HG
          have hv0b : decide (0 < v) = false := decide_eq_false hv0
          clear hv0 hv
          go_wp2_with (first | (go_at_call 19; refine hcall.mono ?_; rintro e w6 ⟨rfl, hb6⟩; have ho6 := style_Check.own_keep ho5 (hb6.block _ ho5.lt); have q0 := style_find.cell_below hb6 p0) | (at_lookup; refine wpList_lookup_own_int (H := Unit) _ rfl _ _ 42 rfl 9 3 .i64 style_Check.law Tryd.underlying42 Tryd.underlying3 (style_Check.zero3 _) w.heap.size kk D rfl ho6 _ _ rfl (style_Check.key x.f0 hx0) ?_; intro c hat hwc; have hc := hat.symm.trans hatx; injection hc with hc; injection hc with _ hc; subst hc) | (at_mapUpdate; refine wpList_mapUpdate_own (H := Unit) _ rfl _ _ _ 42 rfl 9 3 style_Check.law Tryd.underlying42 _ w.heap.size kk D rfl ho6 hkl _ _ _ rfl rfl (style_Check.key x.f0 hx0) _ [] (plainElem_int Tryd.underlying3 hwf) ?_; intro w7 hown7 hgrow7))
          go_roundg (l0.length - (kk + 1))
          case measure => omega
          case rel => exact ⟨kk + 1, by omega, by omega, by go_num, ⟨(below_step HB5.out hb6).grown hgrow7 (below_size (below_step HB5.out hb6)) (fun j hj => by cases hj; exact Nat.le_refl _)⟩, ⟨style_Check.Ids.put hD HAT.out (by rw [HX.out]; exact hown7)⟩, ⟨G'.out.trans (by rw [show l0.length - (kk + 1) = m by omega])⟩⟩
    have hltz : ¬ (kk : Int) < (l0.length : Int) := by omega
    have hk1 : kk = l0.length := by omega
    subst hk1
    have G1 : Aside0 (style_Check.first (style_Check.q1 l0) l0.length 0 = none) := ⟨by rw [HG.out, Nat.sub_self, style_Check.first]⟩
    clear HG hkk hg hlt
    have HB1 := HB
    have HM1 := HM
    clear HB HM
    go_wp2
    go_loopg [37] l0.length (fun gg v37 wq => ∃ kk : Nat, kk ≤ l0.length ∧ l0.length - kk ≤ gg ∧ v37 = .int .i64 kk ∧ Aside0 (Below w.heap.size w wq) ∧ Aside0 (style_Check.Ids l0 w.heap.size l0.length wq) ∧ Aside0 (style_Check.first (style_Check.q2 l0) l0.length 0 = style_Check.first (style_Check.q2 l0) (l0.length - kk) kk))
    case atStart => exact ⟨0, Nat.zero_le _, by omega, rfl, HB1, HM1, ⟨rfl⟩⟩
    case round =>
      clear hltz HB1 HM1
      obtain ⟨kk, hkk, hg, rfl, HB, HM, HG⟩ := hrel
      by_cases hlt : kk < l0.length
      case pos =>
        have hltz : (kk : Int) < (l0.length : Int) := by omega
        obtain ⟨ad, e, h0, h1, h2, h3, h4, h5⟩ := at_T35 (Kd.C_below HR0.out HB.out) kk (by omega) hltz
        cases e
        simp only [Int.toNat_natCast] at h0 h1 h2 h3 h4 h5
        have hrd : rd_T35 l0 kk = l0.getD kk z35 := by unfold rd_T35; rw [Int.toNat_natCast]
        rw [hrd] at h0 h1 h2 h3 h4 h5
        obtain ⟨x, hx⟩ : ∃ x, l0.getD kk z35 = x := ⟨_, rfl⟩
        rw [hx] at h0 h1 h2 h3 h4 h5
        have HX := Aside0.mk hx
        clear hrd hx
        have hx1 := (hsz.out kk hlt).2
        rw [HX.out] at hx1
        obtain ⟨m, hm⟩ : ∃ m, l0.length - kk = m + 1 := ⟨l0.length - kk - 1, by omega⟩
        have G := HG.out
        rw [hm, style_Check.first, style_Check.q2, HX.out] at G
        go_upto_region 14 with (fail)
        have HB5 : Aside0 (Below w.heap.size w (wr.alloc (.cells #[.string x.f0, .string x.f1, .bool x.f2, .int .i64 x.f3, .int .i64 x.f4, .int .i64 x.f5] 35))) := ⟨below_alloc HB.out _⟩
        have HM5 : Aside0 (style_Check.Ids l0 w.heap.size l0.length (wr.alloc (.cells #[.string x.f0, .string x.f1, .bool x.f2, .int .i64 x.f3, .int .i64 x.f4, .int .i64 x.f5] 35))) := ⟨HM.out.below (below_alloc (Below.refl _ _) _)⟩
        have hp5 : style_find.Pt (wr.alloc (.cells #[.string x.f0, .string x.f1, .bool x.f2, .int .i64 x.f3, .int .i64 x.f4, .int .i64 x.f5] 35)) (some ⟨wr.heap.size, 0, none⟩) x := ⟨_, rfl, by simp, by simp, by simp, by simp, by simp, by simp⟩
        generalize wr.alloc (.cells #[.string x.f0, .string x.f1, .bool x.f2, .int .i64 x.f3, .int .i64 x.f4, .int .i64 x.f5] 35) = w5 at HB5 HM5 hp5 ⊢
        obtain ⟨_, e, p0, p1, p2, p3, p4, p5⟩ := hp5
        cases e
        simp only [Nat.zero_add] at p1 p2 p3 p4 p5
        clear h0 h1 h2 h3 h4 h5
        obtain ⟨D, ho5, hD, hat0⟩ := HM5.out
        obtain ⟨c, hrun, hat, hwc⟩ := ho5.lookup_int style_Check.law Tryd.underlying42 Tryd.underlying3 (style_Check.zero3 _) (style_Check.key x.f1 hx1)
        have hc := hat.symm.trans (hat0 x.f1)
        injection hc with hc
        injection hc with _ hc
        rw [← hc] at G
        clear hat hat0 hc ho5 hwc
        by_cases e1 : x.f1.toList = ([] : List UInt8)
        · rw [if_neg (fun hh => hh.1 e1)] at G
          have G' := Aside0.mk G
          clear G HG
          have e1b : (x.f1.toList != ([] : List UInt8)) = false := bne_eq_false_iff_eq.mpr e1
          have e1c : (x.f1.toList == ([] : List UInt8)) = true := beq_iff_eq.mpr e1
          clear e1
          go_wp2
          go_roundg (l0.length - (kk + 1))
          case measure => omega
          case rel => exact ⟨kk + 1, by omega, by omega, by go_num, HB5, HM5, ⟨G'.out.trans (by rw [show l0.length - (kk + 1) = m by omega])⟩⟩
        have e1b : (x.f1.toList != ([] : List UInt8)) = true := bne_iff_ne.mpr e1
        have e1c : (x.f1.toList == ([] : List UInt8)) = false := beq_eq_false_iff_ne.mpr e1
        by_cases hc0 : c = 0
        · rw [if_pos ⟨e1, hc0⟩] at G
          have G' := Aside0.mk G
          clear G HG e1
          subst hc0
          go_wp2
          go_ret2
          have hr := hres.out
          unfold style_Check.res at hr
          rw [G1.out] at hr
          simp only at hr
          rw [G'.out] at hr
          simp only [Prod.mk.injEq] at hr
          obtain ⟨rfl, rfl⟩ := hr
          exact ⟨rfl, HB5.out⟩
        · rw [if_neg (fun hh => hc0 hh.2)] at G
          have G' := Aside0.mk G
          clear G HG e1
          have c0b : (c == 0) = false := beq_eq_false_iff_ne.mpr hc0
          have c0c : decide (c = 0) = false := decide_eq_false hc0
          clear hc0
          go_wp2
          go_roundg (l0.length - (kk + 1))
          case measure => omega
          case rel => exact ⟨kk + 1, by omega, by omega, by go_num, HB5, HM5, ⟨G'.out.trans (by rw [show l0.length - (kk + 1) = m by omega])⟩⟩
      have hltz : ¬ (kk : Int) < (l0.length : Int) := by omega
      have hk1 : kk = l0.length := by omega
      subst hk1
      have G2 : Aside0 (style_Check.first (style_Check.q2 l0) l0.length 0 = none) := ⟨by rw [HG.out, Nat.sub_self, style_Check.first]⟩
      clear HG hkk hg hlt HM
      have HB1 := HB
      clear HB
      have HI := Aside0.mk (fun s W1 hW1 => style_based.calls A0 c0 l0 s W1 (Kd.C_below HR0.out hW1) (by omega))
      go_wp2
      go_loopg [56] l0.length (fun gg v56 wq => ∃ kk : Nat, kk ≤ l0.length ∧ l0.length - kk ≤ gg ∧ v56 = .int .i64 kk ∧ Aside0 (Below w.heap.size w wq) ∧ Aside0 (style_Check.first (style_Check.q3 l0) l0.length 0 = style_Check.first (style_Check.q3 l0) (l0.length - kk) kk))
      case atStart => exact ⟨0, Nat.zero_le _, by omega, rfl, HB1, ⟨rfl⟩⟩
      case round =>
        clear hltz HB1
        obtain ⟨kk, hkk, hg, rfl, HB, HG⟩ := hrel
        by_cases hlt : kk < l0.length
        case pos =>
          have hltz : (kk : Int) < (l0.length : Int) := by omega
          obtain ⟨ad, e, h0, h1, h2, h3, h4, h5⟩ := at_T35 (Kd.C_below HR0.out HB.out) kk (by omega) hltz
          cases e
          simp only [Int.toNat_natCast] at h0 h1 h2 h3 h4 h5
          have hrd : rd_T35 l0 kk = l0.getD kk z35 := by unfold rd_T35; rw [Int.toNat_natCast]
          rw [hrd] at h0 h1 h2 h3 h4 h5
          obtain ⟨x, hx⟩ : ∃ x, l0.getD kk z35 = x := ⟨_, rfl⟩
          rw [hx] at h0 h1 h2 h3 h4 h5
          have HX := Aside0.mk hx
          clear hrd hx
          obtain ⟨m, hm⟩ : ∃ m, l0.length - kk = m + 1 := ⟨l0.length - kk - 1, by omega⟩
          have G := HG.out
          rw [hm, style_Check.first, style_Check.q3, HX.out] at G
          go_upto_region 20 with (fail)
          have HB5 : Aside0 (Below w.heap.size w (wr.alloc (.cells #[.string x.f0, .string x.f1, .bool x.f2, .int .i64 x.f3, .int .i64 x.f4, .int .i64 x.f5] 35))) := ⟨below_alloc HB.out _⟩
          have hp5 : style_find.Pt (wr.alloc (.cells #[.string x.f0, .string x.f1, .bool x.f2, .int .i64 x.f3, .int .i64 x.f4, .int .i64 x.f5] 35)) (some ⟨wr.heap.size, 0, none⟩) x := ⟨_, rfl, by simp, by simp, by simp, by simp, by simp, by simp⟩
          generalize wr.alloc (.cells #[.string x.f0, .string x.f1, .bool x.f2, .int .i64 x.f3, .int .i64 x.f4, .int .i64 x.f5] 35) = w5 at HB5 hp5 ⊢
          obtain ⟨_, e, p0, p1, p2, p3, p4, p5⟩ := hp5
          cases e
          simp only [Nat.zero_add] at p1 p2 p3 p4 p5
          clear h0 h1 h2 h3 h4 h5
          have hcall := HI.out x w5 HB5.out
          obtain ⟨v, hv⟩ : ∃ v, style_based.go l0 x l0.length x = v := ⟨_, rfl⟩
          rw [hv] at G hcall
          by_cases hv0 : v = 0
          · rw [if_neg (fun hh => hh hv0)] at G
            have G' := Aside0.mk G
            clear G HG
            subst hv0
            go_wp2_with (go_at_call 20; refine hcall.mono ?_; rintro e w6 ⟨rfl, hb6⟩)
            go_roundg (l0.length - (kk + 1))
            case measure => omega
            case rel => exact ⟨kk + 1, by omega, by omega, by go_num, ⟨below_step HB5.out hb6⟩, ⟨G'.out.trans (by rw [show l0.length - (kk + 1) = m by omega])⟩⟩
          · rw [if_pos hv0] at G
            have G' := Aside0.mk G
            clear G HG
            have v0b : (v == 0) = false := beq_eq_false_iff_ne.mpr hv0
            have v0d : (v != 0) = true := bne_iff_ne.mpr hv0
            have v0c : decide (v = 0) = false := decide_eq_false hv0
            clear hv0
            go_wp2_with (go_at_call 20; refine hcall.mono ?_; rintro e w6 ⟨rfl, hb6⟩)
            go_ret2
            have hr := hres.out
            unfold style_Check.res at hr
            rw [G1.out] at hr
            simp only at hr
            rw [G2.out] at hr
            simp only at hr
            rw [G'.out] at hr
            simp only [Prod.mk.injEq] at hr
            obtain ⟨rfl, rfl⟩ := hr
            exact ⟨rfl, below_step HB5.out hb6⟩
        have hltz : ¬ (kk : Int) < (l0.length : Int) := by omega
        have hk1 : kk = l0.length := by omega
        subst hk1
        have G3 : Aside0 (style_Check.first (style_Check.q3 l0) l0.length 0 = none) := ⟨by rw [HG.out, Nat.sub_self, style_Check.first]⟩
        go_wp2
        go_ret2
        have hr := hres.out
        unfold style_Check.res at hr
        rw [G1.out] at hr
        simp only at hr
        rw [G2.out] at hr
        simp only at hr
        rw [G3.out] at hr
        simp only [Prod.mk.injEq] at hr
        obtain ⟨rfl, rfl⟩ := hr
        exact ⟨rfl, HB.out⟩

/-! ### rubricatorref14_Find: function 21 -/
def rubricatorref14_Find.l0 : Nat → List (S35) → ByteArray → Int → Option (Int)
  | 0, _, _, _ => none
  | k + 1, x0, x1, x5 => if x5 < (x0.length : Int) then (if 0 ≤ x5 then (if ((rd_T35 x0 x5).f0).toList = x1.toList then (some x5) else (rubricatorref14_Find.l0 k x0 x1 (wrap64 (x5 + 1)))) else (none)) else (some (-1))
def rubricatorref14_Find.f (k : Nat) (l0 : List (S35)) (a1 : ByteArray) : Option (Int) := rubricatorref14_Find.l0 k l0 a1 0
theorem rubricatorref14_Find.mono_l : ∀ k, (∀ y0 y1 y2, LeO (rubricatorref14_Find.l0 k y0 y1 y2) (rubricatorref14_Find.l0 (k + 1) y0 y1 y2))
  | 0 => fun _ _ _ r h => by simp [rubricatorref14_Find.l0] at h
  | k + 1 => by
    have ih0 := rubricatorref14_Find.mono_l k
    · intro y0 y1 y2
      unfold rubricatorref14_Find.l0
      repeat' first
      | (with_reducible exact ih0 _ _ _)
      | (with_reducible exact LeO.refl _)
      | (with_reducible exact LeO.none _)
      | (with_reducible refine LeO.ite ?_ ?_)
      | (with_reducible refine LeO.bind ?_ (fun _ => ?_))
      | exact ih0 _ _ _
      | exact LeO.none _
      | refine LeO.ite ?_ ?_
      | refine LeO.bind ?_ (fun _ => ?_)
theorem rubricatorref14_Find.mono : ∀ a0 a1 k, LeO (rubricatorref14_Find.f k a0 a1) (rubricatorref14_Find.f (k + 1) a0 a1) := by
  intro a0 a1 k
  have ih0 := rubricatorref14_Find.mono_l k
  unfold rubricatorref14_Find.f
  repeat' first
      | (with_reducible exact ih0 _ _ _)
      | (with_reducible exact LeO.refl _)
      | (with_reducible exact LeO.none _)
      | (with_reducible refine LeO.ite ?_ ?_)
      | (with_reducible refine LeO.bind ?_ (fun _ => ?_))
      | exact ih0 _ _ _
      | exact LeO.none _
      | refine LeO.ite ?_ ?_
      | refine LeO.bind ?_ (fun _ => ?_)
set_option maxHeartbeats 8000000 in
set_option maxRecDepth 100000 in
theorem rubricatorref14_Find.calls (k : Nat) (A0 : Option Addr) (c0 : Nat) (l0 : List (S35)) (a1 : ByteArray) (r : Int) (w : World) (hr0 : Kd.C k35 w A0 l0.length l0) (hc0 : l0.length ≤ c0) (h : rubricatorref14_Find.f k l0 a1 = some r) :
    Calls Tryd.prog 21 #[.slice A0 l0.length c0, .string a1] w fun e w' => e = .returned (.int .i64 r) ∧ Drawn0 w w' := by
  have HR0 := Aside0.mk hr0
  have HC0 := Aside0.mk hc0
  clear hr0 hc0
  have H : (rubricatorref14_Find.l0 k l0 a1 0) = some r := h
  clear h
  have H' := Aside0.mk H
  clear H
  go_enter Tryd.func21, Tryd.ntmps21
  go_wp2
  go_loopg [5] k (fun kq v5 w' => ∃ (x5_1 : Int), v5 = .int .i64 x5_1 ∧ Aside0 (rubricatorref14_Find.l0 kq l0 a1 x5_1 = some r) ∧ Aside0 (kq ≤ k) ∧ Drawn0 w w')
  case atStart => exact ⟨(0), (by first | rfl | (simp; done) | (simp [*]; done)), H', ⟨Nat.le_refl _⟩, by repeat (first | exact Drawn0.refl _ | apply Drawn0.step)⟩
  case round =>
    clear H'
    try clear c2
    try clear p2
    obtain ⟨x5_1, rfl, HA, HK1, ⟨m1, rfl⟩⟩ := hrel
    cases gk with
    | zero => exact absurd HA.out (by simp [rubricatorref14_Find.l0])
    | succ k1 =>
      have H := HA.out
      clear HA
      simp only [rubricatorref14_Find.l0] at H
      by_cases c3 : x5_1 < (l0.length : Int)
      · rw [if_pos c3] at H
        have c3b0 : decide (x5_1 < (l0.length : Int)) = true := decide_eq_true c3
        clear c3
        by_cases c4 : 0 ≤ x5_1
        · rw [if_pos c4] at H
          have c4b0 : decide (0 ≤ x5_1) = true := decide_eq_true c4
          clear c4
          by_cases c5 : ((rd_T35 l0 x5_1).f0).toList = a1.toList
          · rw [if_pos c5] at H
            have c5b0 : (((rd_T35 l0 x5_1).f0).toList == a1.toList) = true := beq_iff_eq.mpr c5
            have c5b1 : (((rd_T35 l0 x5_1).f0).toList != a1.toList) = false := bne_eq_false_iff_eq.mpr c5
            clear c5
            obtain rfl := Option.some.inj H
            have p108 : 0 ≤ (x5_1 : Int) := of_decide_eq_true (by first | (with_reducible assumption) | assumption)
            have q108 : x5_1 < (l0.length : Int) := of_decide_eq_true (by first | (with_reducible assumption) | assumption)
            obtain ⟨ad108, e108, hx108_0, hx108_1, hx108_2, hx108_3, hx108_4, hx108_5⟩ := at_T35 HR0.out x5_1 p108 q108
            cases e108
            replace p108 := eq_true p108
            replace q108 := eq_true q108
            go_wp2
            go_ret
            exact ⟨by first | rfl | (simp; done) | (simp [*]; done), by repeat (first | exact Drawn0.refl _ | apply Drawn0.step)⟩
          · rw [if_neg c5] at H
            have c5b0 : (((rd_T35 l0 x5_1).f0).toList == a1.toList) = false := beq_eq_false_iff_ne.mpr c5
            have c5b1 : (((rd_T35 l0 x5_1).f0).toList != a1.toList) = true := bne_iff_ne.mpr c5
            have H' := Aside0.mk H
            clear H
            have p108 : 0 ≤ (x5_1 : Int) := of_decide_eq_true (by first | (with_reducible assumption) | assumption)
            have q108 : x5_1 < (l0.length : Int) := of_decide_eq_true (by first | (with_reducible assumption) | assumption)
            obtain ⟨ad108, e108, hx108_0, hx108_1, hx108_2, hx108_3, hx108_4, hx108_5⟩ := at_T35 HR0.out x5_1 p108 q108
            cases e108
            replace p108 := eq_true p108
            replace q108 := eq_true q108
            go_wp2
            go_roundg k1
            case measure => have := HK1.out; omega
            case rel => exact ⟨(wrap64 (x5_1 + 1)), (by first | rfl | (simp; done) | (simp [*]; done)), H', ⟨by have := HK1.out; omega⟩, by repeat (first | exact Drawn0.refl _ | apply Drawn0.step)⟩
        · rw [if_neg c4] at H
          exact absurd H (by simp)
      · rw [if_neg c3] at H
        have c3b0 : decide (x5_1 < (l0.length : Int)) = false := decide_eq_false c3
        clear c3
        obtain rfl := Option.some.inj H
        go_wp2
        go_ret
        exact ⟨by first | rfl | (simp; done) | (simp [*]; done), by repeat (first | exact Drawn0.refl _ | apply Drawn0.step)⟩

end Go.Proofs.YtahgfbficidjlaaDoor.PA
