-- Printed by a program of this workplace (a turned printer): functions, and proofs that the calls come to them.
import Derived.Test.YtbhopjcicdjjpaaDoorPAx0
import Derived.Test.YtbhopjcicdjjpaaDoorPAx1
import Derived.Test.YtbhopjcicdjjpaaDoorPAx3
import Derived.Test.YtbhopjcicdjjpaaDoorPAx4
namespace Go.Proofs.YtbhopjcicdjjpaaDoor.PA
open Go.RowKit Go.Proofs.YtbhopjcicdjjpaaDoorW.PrintWords Go.Proofs.YtbhopjcicdjjpaaDoorW.PrintLast Go.Proofs.YtbhopjcicdjjpaaDoorW.PrintMore
attribute [local go_sem] max2_int min2_int max_two min_two max_three min_three max_four min_four   -- for this text's walks alone
set_option linter.unusedVariables false
set_option linter.unusedSimpArgs false

/-! ### rubricatorref17_Cursor_Word: function 18 -/
def rubricatorref17_Cursor_Word.l0 : Nat → Int → ByteArray → Int → Int → Bool → Option (ByteArray × ByteArray × Int × Int × Bool)
  | 0, _, _, _, _, _ => none
  | k + 1, x3, x1000, x1001, x1002, x1003 => if x3 < (x1000.size : Int) then (if 0 ≤ x3 then ((rubricatorref17_blank.f (bt x1000 x3)).bind fun t238 => (if t238 = true then (rubricatorref17_Cursor_Word.l0 k (wrap64 (x3 + 1)) x1000 x1001 x1002 x1003) else (if x3 ≤ (x1000.size : Int) then (some (x1000.extract (x3 : Int).toNat x1000.size, x1000, x1001, x1002, x1003)) else (none)))) else (none)) else (if 0 ≤ x3 then (if x3 ≤ (x1000.size : Int) then (some (x1000.extract (x3 : Int).toNat x1000.size, x1000, x1001, x1002, x1003)) else (none)) else (none))
def rubricatorref17_Cursor_Word.f (k : Nat) (s0_0 : ByteArray) (s0_1 : Int) (s0_2 : Int) (s0_3 : Bool) : Option (ByteArray × ByteArray × Int × Int × Bool) := rubricatorref17_Cursor_Word.l0 k s0_1 s0_0 s0_1 s0_2 s0_3
theorem rubricatorref17_Cursor_Word.mono_l : ∀ k, (∀ y0 y1 y2 y3 y4, LeO (rubricatorref17_Cursor_Word.l0 k y0 y1 y2 y3 y4) (rubricatorref17_Cursor_Word.l0 (k + 1) y0 y1 y2 y3 y4))
  | 0 => fun _ _ _ _ _ r h => by simp [rubricatorref17_Cursor_Word.l0] at h
  | k + 1 => by
    have ih0 := rubricatorref17_Cursor_Word.mono_l k
    · intro y0 y1 y2 y3 y4
      unfold rubricatorref17_Cursor_Word.l0
      repeat' first
      | (with_reducible exact ih0 _ _ _ _ _)
      | (with_reducible exact LeO.refl _)
      | (with_reducible exact LeO.none _)
      | (with_reducible refine LeO.ite ?_ ?_)
      | (with_reducible refine LeO.bind ?_ (fun _ => ?_))
      | exact ih0 _ _ _ _ _
      | exact LeO.none _
      | refine LeO.ite ?_ ?_
      | refine LeO.bind ?_ (fun _ => ?_)
theorem rubricatorref17_Cursor_Word.mono : ∀ a0 a1 a2 a3 k, LeO (rubricatorref17_Cursor_Word.f k a0 a1 a2 a3) (rubricatorref17_Cursor_Word.f (k + 1) a0 a1 a2 a3) := by
  intro a0 a1 a2 a3 k
  have ih0 := rubricatorref17_Cursor_Word.mono_l k
  unfold rubricatorref17_Cursor_Word.f
  repeat' first
      | (with_reducible exact ih0 _ _ _ _ _)
      | (with_reducible exact LeO.refl _)
      | (with_reducible exact LeO.none _)
      | (with_reducible refine LeO.ite ?_ ?_)
      | (with_reducible refine LeO.bind ?_ (fun _ => ?_))
      | exact ih0 _ _ _ _ _
      | exact LeO.none _
      | refine LeO.ite ?_ ?_
      | refine LeO.bind ?_ (fun _ => ?_)
set_option maxHeartbeats 8000000 in
set_option maxRecDepth 100000 in
theorem rubricatorref17_Cursor_Word.calls (k : Nat) (g : Nat) (s0_0 : ByteArray) (s0_1 : Int) (s0_2 : Int) (s0_3 : Bool) (r1 : ByteArray) (r2 : ByteArray) (r3 : Int) (r4 : Int) (r5 : Bool) (w0 w : World) (hI : IsS34 w0 w g s0_0 s0_1 s0_2 s0_3) (hB : Below w0.heap.size w0 w) (h : rubricatorref17_Cursor_Word.f k s0_0 s0_1 s0_2 s0_3 = some (r1, r2, r3, r4, r5)) :
    Calls Tryd.prog 18 #[.pointer (some ⟨g, 0, none⟩)] w fun e w' => e = .returned (.string r1) ∧ IsS34 w0 w' g r2 r3 r4 r5 ∧ Below w0.heap.size w0 w' ∧ KeepBut w w' g none := by
  have HI0 := Aside0.mk hI
  have HK := Aside0.mk (KeepBut.refl w g none)
  have HL := Aside0.mk hB.size
  clear hI
  have HW0 := Aside0.mk hB.size
  have HB := Aside0.mk hB
  clear hB
  have H : (rubricatorref17_Cursor_Word.l0 k s0_1 s0_0 s0_1 s0_2 s0_3) = some (r1, r2, r3, r4, r5) := h
  clear h
  have H' := Aside0.mk H
  clear H
  obtain ⟨HGz2, hgz2⟩ := HI0.out
  have hcz2_0 := cellS34_0 HGz2
  have hcz2_1 := cellS34_1 HGz2
  have hcz2_2 := cellS34_2 HGz2
  have hcz2_3 := cellS34_3 HGz2
  have hfz2_0 := blk_frozen HGz2 0
  have hfz2_1 := blk_frozen HGz2 1
  have hfz2_2 := blk_frozen HGz2 2
  have hfz2_3 := blk_frozen HGz2 3
  clear HGz2 hgz2
  go_enter Tryd.func18, Tryd.ntmps18
  go_wp2
  go_loopg [3] k (fun kq v3 w' => ∃ (x3_1 : Int), v3 = .int .i64 x3_1 ∧ Aside0 (rubricatorref17_Cursor_Word.l0 kq x3_1 s0_0 s0_1 s0_2 s0_3 = some (r1, r2, r3, r4, r5)) ∧ Aside0 (kq ≤ k) ∧ Aside0 (IsS34 w0 w' g s0_0 s0_1 s0_2 s0_3) ∧ Aside0 (KeepBut w w' g none) ∧ Aside0 (Below w0.heap.size w0 w'))
  case atStart => exact ⟨(s0_1), (by first | rfl | (simp; done) | (simp [*]; done)), H', ⟨Nat.le_refl _⟩, ⟨by repeat (first | (with_reducible first | exact HI0.out | apply IsS34.alloc | apply IsS34.drewN | apply IsS34.drew | apply IsS34.set_0 | apply IsS34.set_1 | apply IsS34.set_2 | apply IsS34.set_3) | exact HI0.out)⟩, ⟨by repeat (first | (with_reducible first | exact HK.out | apply KeepBut.set_ | apply keep_drewN | apply keep_drew | apply keep_alloc) | exact HK.out)⟩, ⟨by repeat (first | (with_reducible first | exact HB.out | apply below_alloc | apply pw_below_drewN | apply below_drew1 | refine below_set ?_ (IsS34.ge HI0.out)) | exact HB.out)⟩⟩
  case round =>
    clear H'
    try clear c1
    try clear p2
    try clear hcz2_0
    try clear hcz2_1
    try clear hcz2_2
    try clear hcz2_3
    try clear hfz2_0
    try clear hfz2_1
    try clear hfz2_2
    try clear hfz2_3
    obtain ⟨x3_1, rfl, HA, HK1, HI0, HK, HB⟩ := hrel
    cases gk with
    | zero => exact absurd HA.out (by simp [rubricatorref17_Cursor_Word.l0])
    | succ k1 =>
      have H := HA.out
      clear HA
      simp only [rubricatorref17_Cursor_Word.l0] at H
      by_cases c3 : x3_1 < (s0_0.size : Int)
      · rw [if_pos c3] at H
        have c3b0 : decide (x3_1 < (s0_0.size : Int)) = true := decide_eq_true c3
        clear c3
        by_cases c4 : 0 ≤ x3_1
        · rw [if_pos c4] at H
          have c4b0 : decide (0 ≤ x3_1) = true := decide_eq_true c4
          clear c4
          replace H := Option.bind_eq_some_iff.mp H
          obtain ⟨t238, A60, H⟩ := H
          replace H : (if t238 = true then (rubricatorref17_Cursor_Word.l0 k1 (wrap64 (x3_1 + 1)) s0_0 s0_1 s0_2 s0_3) else (if x3_1 ≤ (s0_0.size : Int) then (some (s0_0.extract (x3_1 : Int).toNat s0_0.size, s0_0, s0_1, s0_2, s0_3)) else (none))) = some (r1, r2, r3, r4, r5) := H
          have A6 := Aside0.mk A60
          clear A60
          by_cases c7 : t238 = true
          · subst c7
            have H1 : (rubricatorref17_Cursor_Word.l0 k1 (wrap64 (x3_1 + 1)) s0_0 s0_1 s0_2 s0_3) = some (r1, r2, r3, r4, r5) := by rw [if_pos rfl] at H; exact H
            clear H
            have H := H1
            clear H1
            have H' := Aside0.mk H
            clear H
            obtain ⟨HGz8, hgz8⟩ := HI0.out
            have hcz8_0 := cellS34_0 HGz8
            have hcz8_1 := cellS34_1 HGz8
            have hcz8_2 := cellS34_2 HGz8
            have hcz8_3 := cellS34_3 HGz8
            have hfz8_0 := blk_frozen HGz8 0
            have hfz8_1 := blk_frozen HGz8 1
            have hfz8_2 := blk_frozen HGz8 2
            have hfz8_3 := blk_frozen HGz8 3
            clear HGz8 hgz8
            have p5 : 0 ≤ (x3_1 : Int) := of_decide_eq_true (by first | (with_reducible assumption) | assumption)
            have q5 : x3_1 < (s0_0.size : Int) := of_decide_eq_true (by first | (with_reducible assumption) | assumption)
            have hx5 := bt_at s0_0 x3_1
            replace p5 := eq_true p5
            replace q5 := eq_true q5
            go_wp2_with (first | ((first | ((with_reducible refine gate_callee (f := 27) rfl ?_); (with_reducible refine gate_dst (N := 22) rfl ?_); refine gate_guard (by rfl) ?_; dsimp only; refine goesL_ (some 22) rfl rfl Tryd.func27 (by kernel_rfl) rfl #[.int .u8 (bt s0_0 x3_1)] rfl (by (try simp only [List.map_toArray, List.map_cons, List.map_nil]); first | done | rfl | (simp only [List.length_drop, List.length_take]; rfl)) ?_; (with_reducible refine (rubricatorref17_blank.calls (bt s0_0 x3_1) true _ A6.out).mono ?_); rintro e w' ⟨rfl, ⟨nd, rfl⟩⟩; refine ⟨_, rfl, ?_⟩) | (go_at_call 27; (with_reducible refine (rubricatorref17_blank.calls (bt s0_0 x3_1) true _ A6.out).mono ?_); rintro e w' ⟨rfl, ⟨nd, rfl⟩⟩))))
            go_roundg k1
            case measure => have := HK1.out; omega
            case rel => exact ⟨(wrap64 (x3_1 + 1)), (by first | rfl | (simp; done) | (simp [*]; done)), H', ⟨by have := HK1.out; omega⟩, ⟨by repeat (first | (with_reducible first | exact HI0.out | apply IsS34.alloc | apply IsS34.drewN | apply IsS34.drew | apply IsS34.set_0 | apply IsS34.set_1 | apply IsS34.set_2 | apply IsS34.set_3) | exact HI0.out)⟩, ⟨by repeat (first | (with_reducible first | exact HK.out | apply KeepBut.set_ | apply keep_drewN | apply keep_drew | apply keep_alloc) | exact HK.out)⟩, ⟨by repeat (first | (with_reducible first | exact HB.out | apply below_alloc | apply pw_below_drewN | apply below_drew1 | refine below_set ?_ (IsS34.ge HI0.out)) | exact HB.out)⟩⟩
          · replace c7 := Bool.eq_false_iff.mpr c7
            subst c7
            have H1 : (if x3_1 ≤ (s0_0.size : Int) then (some (s0_0.extract (x3_1 : Int).toNat s0_0.size, s0_0, s0_1, s0_2, s0_3)) else (none)) = some (r1, r2, r3, r4, r5) := by rw [if_neg (show ¬ (false = true) by decide)] at H; exact H
            clear H
            have H := H1
            clear H1
            have c9b0 := eq_true (of_decide_eq_true (by first | (with_reducible assumption) | assumption) : 0 ≤ x3_1)
            by_cases c10 : x3_1 ≤ (s0_0.size : Int)
            · rw [if_pos c10] at H
              have c10b0 := eq_true c10
              have c10b1 : decide (x3_1 ≤ (s0_0.size : Int)) = true := decide_eq_true c10
              clear c10
              simp only [Option.some.injEq, Prod.mk.injEq] at H
              obtain ⟨rfl, rfl, rfl, rfl, rfl⟩ := H
              obtain ⟨HGz11, hgz11⟩ := HI0.out
              have hcz11_0 := cellS34_0 HGz11
              have hcz11_1 := cellS34_1 HGz11
              have hcz11_2 := cellS34_2 HGz11
              have hcz11_3 := cellS34_3 HGz11
              have hfz11_0 := blk_frozen HGz11 0
              have hfz11_1 := blk_frozen HGz11 1
              have hfz11_2 := blk_frozen HGz11 2
              have hfz11_3 := blk_frozen HGz11 3
              clear HGz11 hgz11
              have p5 : 0 ≤ (x3_1 : Int) := of_decide_eq_true (by first | (with_reducible assumption) | assumption)
              have q5 : x3_1 < (s0_0.size : Int) := of_decide_eq_true (by first | (with_reducible assumption) | assumption)
              have hx5 := bt_at s0_0 x3_1
              replace p5 := eq_true p5
              replace q5 := eq_true q5
              go_wp2_with (first | ((first | ((with_reducible refine gate_callee (f := 27) rfl ?_); (with_reducible refine gate_dst (N := 22) rfl ?_); refine gate_guard (by rfl) ?_; dsimp only; refine goesL_ (some 22) rfl rfl Tryd.func27 (by kernel_rfl) rfl #[.int .u8 (bt s0_0 x3_1)] rfl (by (try simp only [List.map_toArray, List.map_cons, List.map_nil]); first | done | rfl | (simp only [List.length_drop, List.length_take]; rfl)) ?_; (with_reducible refine (rubricatorref17_blank.calls (bt s0_0 x3_1) false _ A6.out).mono ?_); rintro e w' ⟨rfl, ⟨nd, rfl⟩⟩; refine ⟨_, rfl, ?_⟩) | (go_at_call 27; (with_reducible refine (rubricatorref17_blank.calls (bt s0_0 x3_1) false _ A6.out).mono ?_); rintro e w' ⟨rfl, ⟨nd, rfl⟩⟩))))
              go_ret
              exact ⟨by first | rfl | (simp [errW_none, errW_some] <;> rfl) | (simp [*, errW_none, errW_some] <;> rfl), by repeat (first | (with_reducible first | exact HI0.out | apply IsS34.alloc | apply IsS34.drewN | apply IsS34.drew | apply IsS34.set_0 | apply IsS34.set_1 | apply IsS34.set_2 | apply IsS34.set_3) | exact HI0.out), by repeat (first | (with_reducible first | exact HB.out | apply below_alloc | apply pw_below_drewN | apply below_drew1 | refine below_set ?_ (IsS34.ge HI0.out)) | exact HB.out), by repeat (first | (with_reducible first | exact HK.out | apply KeepBut.set_ | apply keep_drewN | apply keep_drew | apply keep_alloc) | exact HK.out)⟩
            · rw [if_neg c10] at H
              exact absurd H (by simp)
        · rw [if_neg c4] at H
          exact absurd H (by simp)
      · rw [if_neg c3] at H
        have c3b0 : decide (x3_1 < (s0_0.size : Int)) = false := decide_eq_false c3
        clear c3
        by_cases c12 : 0 ≤ x3_1
        · rw [if_pos c12] at H
          have c12b0 := eq_true c12
          have c12b1 : decide (0 ≤ x3_1) = true := decide_eq_true c12
          clear c12
          by_cases c13 : x3_1 ≤ (s0_0.size : Int)
          · rw [if_pos c13] at H
            have c13b0 := eq_true c13
            have c13b1 : decide (x3_1 ≤ (s0_0.size : Int)) = true := decide_eq_true c13
            clear c13
            simp only [Option.some.injEq, Prod.mk.injEq] at H
            obtain ⟨rfl, rfl, rfl, rfl, rfl⟩ := H
            obtain ⟨HGz14, hgz14⟩ := HI0.out
            have hcz14_0 := cellS34_0 HGz14
            have hcz14_1 := cellS34_1 HGz14
            have hcz14_2 := cellS34_2 HGz14
            have hcz14_3 := cellS34_3 HGz14
            have hfz14_0 := blk_frozen HGz14 0
            have hfz14_1 := blk_frozen HGz14 1
            have hfz14_2 := blk_frozen HGz14 2
            have hfz14_3 := blk_frozen HGz14 3
            clear HGz14 hgz14
            go_wp2
            go_ret
            exact ⟨by first | rfl | (simp [errW_none, errW_some] <;> rfl) | (simp [*, errW_none, errW_some] <;> rfl), by repeat (first | (with_reducible first | exact HI0.out | apply IsS34.alloc | apply IsS34.drewN | apply IsS34.drew | apply IsS34.set_0 | apply IsS34.set_1 | apply IsS34.set_2 | apply IsS34.set_3) | exact HI0.out), by repeat (first | (with_reducible first | exact HB.out | apply below_alloc | apply pw_below_drewN | apply below_drew1 | refine below_set ?_ (IsS34.ge HI0.out)) | exact HB.out), by repeat (first | (with_reducible first | exact HK.out | apply KeepBut.set_ | apply keep_drewN | apply keep_drew | apply keep_alloc) | exact HK.out)⟩
          · rw [if_neg c13] at H
            exact absurd H (by simp)
        · rw [if_neg c12] at H
          exact absurd H (by simp)

/-! ### rubricatorref17_Cursor_Skip: function 19 -/
mutual
def rubricatorref17_Cursor_Skip.l0 : Nat → Int → Int → ByteArray → Int → Int → Bool → Option (Int × ByteArray × Int × Int × Bool)
  | 0, _, _, _, _, _, _ => none
  | k + 1, x1, x5, x1000, x1001, x1002, x1003 => if x5 < x1 then (if x1001 < (x1000.size : Int) then (if 0 ≤ x1001 then ((rubricatorref17_blank.f (bt x1000 x1001)).bind fun t239 => (rubricatorref17_Cursor_Skip.j1 k x1 x5 t239 x1000 x1001 x1002 x1003)) else (none)) else (rubricatorref17_Cursor_Skip.j1 k x1 x5 false x1000 x1001 x1002 x1003)) else (rubricatorref17_Cursor_Skip.j1 k x1 x5 false x1000 x1001 x1002 x1003)
def rubricatorref17_Cursor_Skip.j1 : Nat → Int → Int → Bool → ByteArray → Int → Int → Bool → Option (Int × ByteArray × Int × Int × Bool)
  | 0, _, _, _, _, _, _, _ => none
  | k + 1, x1, x5, x34, x1000, x1001, x1002, x1003 => if x34 = true then (if 0 ≤ x1001 then (if x1001 < (x1000.size : Int) then (if (bt x1000 x1001) = 9 then ((rubricatorref17_tab.f x1002).bind fun t240 => (if ((wrap64 (x1002 + (mn (wrap64 (x1 - x5)) (wrap64 (t240 - x1002))))) < t240) then (rubricatorref17_Cursor_Skip.l0 k x1 (wrap64 (x5 + (mn (wrap64 (x1 - x5)) (wrap64 (t240 - x1002))))) x1000 x1001 (wrap64 (x1002 + (mn (wrap64 (x1 - x5)) (wrap64 (t240 - x1002))))) (decide ((wrap64 (x1002 + (mn (wrap64 (x1 - x5)) (wrap64 (t240 - x1002))))) < t240))) else (rubricatorref17_Cursor_Skip.l0 k x1 (wrap64 (x5 + (mn (wrap64 (x1 - x5)) (wrap64 (t240 - x1002))))) x1000 (wrap64 (x1001 + 1)) (wrap64 (x1002 + (mn (wrap64 (x1 - x5)) (wrap64 (t240 - x1002))))) (decide ((wrap64 (x1002 + (mn (wrap64 (x1 - x5)) (wrap64 (t240 - x1002))))) < t240))))) else (if ((wrap64 (x1002 + (mn (wrap64 (x1 - x5)) (wrap64 ((wrap64 (x1002 + 1)) - x1002))))) < (wrap64 (x1002 + 1))) then (rubricatorref17_Cursor_Skip.l0 k x1 (wrap64 (x5 + (mn (wrap64 (x1 - x5)) (wrap64 ((wrap64 (x1002 + 1)) - x1002))))) x1000 x1001 (wrap64 (x1002 + (mn (wrap64 (x1 - x5)) (wrap64 ((wrap64 (x1002 + 1)) - x1002))))) (decide ((wrap64 (x1002 + (mn (wrap64 (x1 - x5)) (wrap64 ((wrap64 (x1002 + 1)) - x1002))))) < (wrap64 (x1002 + 1))))) else (rubricatorref17_Cursor_Skip.l0 k x1 (wrap64 (x5 + (mn (wrap64 (x1 - x5)) (wrap64 ((wrap64 (x1002 + 1)) - x1002))))) x1000 (wrap64 (x1001 + 1)) (wrap64 (x1002 + (mn (wrap64 (x1 - x5)) (wrap64 ((wrap64 (x1002 + 1)) - x1002))))) (decide ((wrap64 (x1002 + (mn (wrap64 (x1 - x5)) (wrap64 ((wrap64 (x1002 + 1)) - x1002))))) < (wrap64 (x1002 + 1))))))) else (none)) else (none)) else (some (x5, x1000, x1001, x1002, x1003))
end
def rubricatorref17_Cursor_Skip.f (k : Nat) (s0_0 : ByteArray) (s0_1 : Int) (s0_2 : Int) (s0_3 : Bool) (a1 : Int) : Option (Int × ByteArray × Int × Int × Bool) := rubricatorref17_Cursor_Skip.l0 k a1 0 s0_0 s0_1 s0_2 s0_3
theorem rubricatorref17_Cursor_Skip.mono_l : ∀ k, (∀ y0 y1 y2 y3 y4 y5, LeO (rubricatorref17_Cursor_Skip.l0 k y0 y1 y2 y3 y4 y5) (rubricatorref17_Cursor_Skip.l0 (k + 1) y0 y1 y2 y3 y4 y5)) ∧ (∀ y0 y1 y2 y3 y4 y5 y6, LeO (rubricatorref17_Cursor_Skip.j1 k y0 y1 y2 y3 y4 y5 y6) (rubricatorref17_Cursor_Skip.j1 (k + 1) y0 y1 y2 y3 y4 y5 y6))
  | 0 => ⟨fun _ _ _ _ _ _ r h => by simp [rubricatorref17_Cursor_Skip.l0] at h, fun _ _ _ _ _ _ _ r h => by simp [rubricatorref17_Cursor_Skip.j1] at h⟩
  | k + 1 => by
    obtain ⟨ih0, ih1⟩ := rubricatorref17_Cursor_Skip.mono_l k
    refine ⟨?_, ?_⟩
    · intro y0 y1 y2 y3 y4 y5
      unfold rubricatorref17_Cursor_Skip.l0
      repeat' first
      | (with_reducible exact ih0 _ _ _ _ _ _)
      | (with_reducible exact ih1 _ _ _ _ _ _ _)
      | (with_reducible exact LeO.refl _)
      | (with_reducible exact LeO.none _)
      | (with_reducible refine LeO.ite ?_ ?_)
      | (with_reducible refine LeO.bind ?_ (fun _ => ?_))
      | exact ih0 _ _ _ _ _ _
      | exact ih1 _ _ _ _ _ _ _
      | exact LeO.none _
      | refine LeO.ite ?_ ?_
      | refine LeO.bind ?_ (fun _ => ?_)
    · intro y0 y1 y2 y3 y4 y5 y6
      unfold rubricatorref17_Cursor_Skip.j1
      repeat' first
      | (with_reducible exact ih0 _ _ _ _ _ _)
      | (with_reducible exact ih1 _ _ _ _ _ _ _)
      | (with_reducible exact LeO.refl _)
      | (with_reducible exact LeO.none _)
      | (with_reducible refine LeO.ite ?_ ?_)
      | (with_reducible refine LeO.bind ?_ (fun _ => ?_))
      | exact ih0 _ _ _ _ _ _
      | exact ih1 _ _ _ _ _ _ _
      | exact LeO.none _
      | refine LeO.ite ?_ ?_
      | refine LeO.bind ?_ (fun _ => ?_)
theorem rubricatorref17_Cursor_Skip.mono : ∀ a0 a1 a2 a3 a4 k, LeO (rubricatorref17_Cursor_Skip.f k a0 a1 a2 a3 a4) (rubricatorref17_Cursor_Skip.f (k + 1) a0 a1 a2 a3 a4) := by
  intro a0 a1 a2 a3 a4 k
  obtain ⟨ih0, ih1⟩ := rubricatorref17_Cursor_Skip.mono_l k
  unfold rubricatorref17_Cursor_Skip.f
  repeat' first
      | (with_reducible exact ih0 _ _ _ _ _ _)
      | (with_reducible exact ih1 _ _ _ _ _ _ _)
      | (with_reducible exact LeO.refl _)
      | (with_reducible exact LeO.none _)
      | (with_reducible refine LeO.ite ?_ ?_)
      | (with_reducible refine LeO.bind ?_ (fun _ => ?_))
      | exact ih0 _ _ _ _ _ _
      | exact ih1 _ _ _ _ _ _ _
      | exact LeO.none _
      | refine LeO.ite ?_ ?_
      | refine LeO.bind ?_ (fun _ => ?_)
set_option maxHeartbeats 8000000 in
set_option maxRecDepth 100000 in
theorem rubricatorref17_Cursor_Skip.calls (k : Nat) (g : Nat) (s0_0 : ByteArray) (s0_1 : Int) (s0_2 : Int) (s0_3 : Bool) (a1 : Int) (r1 : Int) (r2 : ByteArray) (r3 : Int) (r4 : Int) (r5 : Bool) (w0 w : World) (hI : IsS34 w0 w g s0_0 s0_1 s0_2 s0_3) (hB : Below w0.heap.size w0 w) (h : rubricatorref17_Cursor_Skip.f k s0_0 s0_1 s0_2 s0_3 a1 = some (r1, r2, r3, r4, r5)) :
    Calls Tryd.prog 19 #[.pointer (some ⟨g, 0, none⟩), .int .i64 a1] w fun e w' => e = .returned (.int .i64 r1) ∧ IsS34 w0 w' g r2 r3 r4 r5 ∧ Below w0.heap.size w0 w' ∧ KeepBut w w' g none := by
  have HI0 := Aside0.mk hI
  have HK := Aside0.mk (KeepBut.refl w g none)
  have HL := Aside0.mk hB.size
  clear hI
  have HW0 := Aside0.mk hB.size
  have HB := Aside0.mk hB
  clear hB
  have H : (rubricatorref17_Cursor_Skip.l0 k a1 0 s0_0 s0_1 s0_2 s0_3) = some (r1, r2, r3, r4, r5) := h
  clear h
  have H' := Aside0.mk H
  clear H
  go_enter Tryd.func19, Tryd.ntmps19
  go_wp2
  repeat (go_quiet (fail); try go_wp2)
  go_loopg [5] k (fun kq v5 w' => ∃ (x5_1 : Int) (x1001_1 : Int) (x1002_1 : Int) (x1003_1 : Bool), v5 = .int .i64 x5_1 ∧ Aside0 (rubricatorref17_Cursor_Skip.l0 kq a1 x5_1 s0_0 x1001_1 x1002_1 x1003_1 = some (r1, r2, r3, r4, r5)) ∧ Aside0 (kq ≤ k) ∧ Aside0 (IsS34 w0 w' g s0_0 x1001_1 x1002_1 x1003_1) ∧ Aside0 (KeepBut w w' g none) ∧ Aside0 (Below w0.heap.size w0 w'))
  case atStart => exact ⟨(0), (s0_1), (s0_2), (s0_3), (by first | rfl | (simp; done) | (simp [*]; done)), H', ⟨Nat.le_refl _⟩, ⟨by repeat (first | (with_reducible first | exact HI0.out | apply IsS34.alloc | apply IsS34.drewN | apply IsS34.drew | apply IsS34.set_0 | apply IsS34.set_1 | apply IsS34.set_2 | apply IsS34.set_3) | exact HI0.out)⟩, ⟨by repeat (first | (with_reducible first | exact HK.out | apply KeepBut.set_ | apply keep_drewN | apply keep_drew | apply keep_alloc) | exact HK.out)⟩, ⟨by repeat (first | (with_reducible first | exact HB.out | apply below_alloc | apply pw_below_drewN | apply below_drew1 | refine below_set ?_ (IsS34.ge HI0.out)) | exact HB.out)⟩⟩
  case round =>
    clear H'
    try clear c1
    try clear p2
    obtain ⟨x5_1, x1001_1, x1002_1, x1003_1, rfl, HA, HK1, HI0, HK, HB⟩ := hrel
    cases gk with
    | zero => exact absurd HA.out (by simp [rubricatorref17_Cursor_Skip.l0])
    | succ k1 =>
      have H := HA.out
      clear HA
      simp only [rubricatorref17_Cursor_Skip.l0] at H
      have HC3 := Aside0.mk H
      clear H
      go_upto_region 2 with (fail)
      repeat (go_quiet (fail); go_upto_region 2 with (fail))
      go_cut [34] (fun v34 wc => ∃ (kq : Nat) (x34_2 : Bool), v34 = .bool x34_2 ∧ Aside0 (rubricatorref17_Cursor_Skip.j1 kq a1 x5_1 x34_2 s0_0 x1001_1 x1002_1 x1003_1 = some (r1, r2, r3, r4, r5)) ∧ Aside0 (kq ≤ k1) ∧ Aside0 (IsS34 w0 wc g s0_0 x1001_1 x1002_1 x1003_1) ∧ Aside0 (KeepBut w wc g none) ∧ Aside0 (Below w0.heap.size w0 wc))
      case first =>
        have H := HC3.out
        clear HC3
        by_cases c4 : x5_1 < a1
        · rw [if_pos c4] at H
          have c4b0 : decide (x5_1 < a1) = true := decide_eq_true c4
          clear c4
          (first | rw [c4b0] | (simp only [i64_w, i32_w]; rw [c4b0]) | skip)
          by_cases c5 : x1001_1 < (s0_0.size : Int)
          · rw [if_pos c5] at H
            have c5b0 : decide (x1001_1 < (s0_0.size : Int)) = true := decide_eq_true c5
            clear c5
            by_cases c6 : 0 ≤ x1001_1
            · rw [if_pos c6] at H
              have c6b0 : decide (0 ≤ x1001_1) = true := decide_eq_true c6
              clear c6
              replace H := Option.bind_eq_some_iff.mp H
              obtain ⟨t239, A80, H⟩ := H
              replace H : (rubricatorref17_Cursor_Skip.j1 k1 a1 x5_1 t239 s0_0 x1001_1 x1002_1 x1003_1) = some (r1, r2, r3, r4, r5) := H
              have A8 := Aside0.mk A80
              clear A80
              have H' := Aside0.mk H
              clear H
              obtain ⟨HGz9, hgz9⟩ := HI0.out
              have hcz9_0 := cellS34_0 HGz9
              have hcz9_1 := cellS34_1 HGz9
              have hcz9_2 := cellS34_2 HGz9
              have hcz9_3 := cellS34_3 HGz9
              have hfz9_0 := blk_frozen HGz9 0
              have hfz9_1 := blk_frozen HGz9 1
              have hfz9_2 := blk_frozen HGz9 2
              have hfz9_3 := blk_frozen HGz9 3
              clear HGz9 hgz9
              have p7 : 0 ≤ (x1001_1 : Int) := of_decide_eq_true (by first | (with_reducible assumption) | assumption)
              have q7 : x1001_1 < (s0_0.size : Int) := of_decide_eq_true (by first | (with_reducible assumption) | assumption)
              have hx7 := bt_at s0_0 x1001_1
              replace p7 := eq_true p7
              replace q7 := eq_true q7
              go_wp2_with (first | (go_at_call 27; (with_reducible refine (rubricatorref17_blank.calls (bt s0_0 x1001_1) t239 _ A8.out).mono ?_); rintro e w' ⟨rfl, ⟨nd, rfl⟩⟩; (try first | exact ⟨rfl, _, World.drewN_drewN _ _ _⟩ | exact ⟨rfl, _, Eq.trans (World.drewN_drewN _ _ _) (congrArg (World.drewN _) (Nat.add_assoc _ _ _))⟩)))
              repeat (go_quiet (first | (go_at_call 27; (with_reducible refine (rubricatorref17_blank.calls (bt s0_0 x1001_1) t239 _ A8.out).mono ?_); rintro e w' ⟨rfl, ⟨nd, rfl⟩⟩; (try first | exact ⟨rfl, _, World.drewN_drewN _ _ _⟩ | exact ⟨rfl, _, Eq.trans (World.drewN_drewN _ _ _) (congrArg (World.drewN _) (Nat.add_assoc _ _ _))⟩))); try go_wp2_with (first | (go_at_call 27; (with_reducible refine (rubricatorref17_blank.calls (bt s0_0 x1001_1) t239 _ A8.out).mono ?_); rintro e w' ⟨rfl, ⟨nd, rfl⟩⟩; (try first | exact ⟨rfl, _, World.drewN_drewN _ _ _⟩ | exact ⟨rfl, _, Eq.trans (World.drewN_drewN _ _ _) (congrArg (World.drewN _) (Nat.add_assoc _ _ _))⟩))))
              go_meet
              case rel => exact ⟨_, (t239), (by first | rfl | (simp; done) | (simp [*]; done)), H', ⟨by have := HK1.out; first | omega | exact Nat.le_refl _⟩, ⟨by repeat (first | (with_reducible first | exact HI0.out | apply IsS34.alloc | apply IsS34.drewN | apply IsS34.drew | apply IsS34.set_0 | apply IsS34.set_1 | apply IsS34.set_2 | apply IsS34.set_3) | exact HI0.out)⟩, ⟨by repeat (first | (with_reducible first | exact HK.out | apply KeepBut.set_ | apply keep_drewN | apply keep_drew | apply keep_alloc) | exact HK.out)⟩, ⟨by repeat (first | (with_reducible first | exact HB.out | apply below_alloc | apply pw_below_drewN | apply below_drew1 | refine below_set ?_ (IsS34.ge HI0.out)) | exact HB.out)⟩⟩
            · rw [if_neg c6] at H
              exact absurd H (by simp)
          · rw [if_neg c5] at H
            have c5b0 : decide (x1001_1 < (s0_0.size : Int)) = false := decide_eq_false c5
            clear c5
            have H' := Aside0.mk H
            clear H
            obtain ⟨HGz10, hgz10⟩ := HI0.out
            have hcz10_0 := cellS34_0 HGz10
            have hcz10_1 := cellS34_1 HGz10
            have hcz10_2 := cellS34_2 HGz10
            have hcz10_3 := cellS34_3 HGz10
            have hfz10_0 := blk_frozen HGz10 0
            have hfz10_1 := blk_frozen HGz10 1
            have hfz10_2 := blk_frozen HGz10 2
            have hfz10_3 := blk_frozen HGz10 3
            clear HGz10 hgz10
            go_wp2
            repeat (go_quiet (fail); try go_wp2)
            go_meet
            case rel => exact ⟨_, (false), (by first | rfl | (simp; done) | (simp [*]; done)), H', ⟨by have := HK1.out; first | omega | exact Nat.le_refl _⟩, ⟨by repeat (first | (with_reducible first | exact HI0.out | apply IsS34.alloc | apply IsS34.drewN | apply IsS34.drew | apply IsS34.set_0 | apply IsS34.set_1 | apply IsS34.set_2 | apply IsS34.set_3) | exact HI0.out)⟩, ⟨by repeat (first | (with_reducible first | exact HK.out | apply KeepBut.set_ | apply keep_drewN | apply keep_drew | apply keep_alloc) | exact HK.out)⟩, ⟨by repeat (first | (with_reducible first | exact HB.out | apply below_alloc | apply pw_below_drewN | apply below_drew1 | refine below_set ?_ (IsS34.ge HI0.out)) | exact HB.out)⟩⟩
        · rw [if_neg c4] at H
          have c4b0 : decide (x5_1 < a1) = false := decide_eq_false c4
          clear c4
          (first | rw [c4b0] | (simp only [i64_w, i32_w]; rw [c4b0]) | skip)
          have H' := Aside0.mk H
          clear H
          go_wp2
          repeat (go_quiet (fail); try go_wp2)
          go_meet
          case rel => exact ⟨_, (false), (by first | rfl | (simp; done) | (simp [*]; done)), H', ⟨by have := HK1.out; first | omega | exact Nat.le_refl _⟩, ⟨by repeat (first | (with_reducible first | exact HI0.out | apply IsS34.alloc | apply IsS34.drewN | apply IsS34.drew | apply IsS34.set_0 | apply IsS34.set_1 | apply IsS34.set_2 | apply IsS34.set_3) | exact HI0.out)⟩, ⟨by repeat (first | (with_reducible first | exact HK.out | apply KeepBut.set_ | apply keep_drewN | apply keep_drew | apply keep_alloc) | exact HK.out)⟩, ⟨by repeat (first | (with_reducible first | exact HB.out | apply below_alloc | apply pw_below_drewN | apply below_drew1 | refine below_set ?_ (IsS34.ge HI0.out)) | exact HB.out)⟩⟩
      case rest =>
        clear HC3
        try clear c1
        try clear p2
        try clear c4
        try clear c4b0
        try clear c5
        try clear c5b0
        try clear c6
        try clear c6b0
        try clear p7
        try clear q7
        try clear hx7
        try clear hcz10_0
        try clear hcz10_1
        try clear hcz10_2
        try clear hcz10_3
        try clear hcz9_0
        try clear hcz9_1
        try clear hcz9_2
        try clear hcz9_3
        try clear hfz10_0
        try clear hfz10_1
        try clear hfz10_2
        try clear hfz10_3
        try clear hfz9_0
        try clear hfz9_1
        try clear hfz9_2
        try clear hfz9_3
        try clear p2
        try clear p7
        try clear q7
        obtain ⟨kq, x34_2, rfl, HA, HJ2, HI0, HK, HB⟩ := hcut
        cases kq with
        | zero => exact absurd HA.out (by simp [rubricatorref17_Cursor_Skip.j1])
        | succ kj2 =>
          have H := HA.out
          clear HA
          simp only [rubricatorref17_Cursor_Skip.j1] at H
          by_cases c11 : x34_2 = true
          · subst c11
            have H1 : (if 0 ≤ x1001_1 then (if x1001_1 < (s0_0.size : Int) then (if (bt s0_0 x1001_1) = 9 then ((rubricatorref17_tab.f x1002_1).bind fun t240 => (if ((wrap64 (x1002_1 + (mn (wrap64 (a1 - x5_1)) (wrap64 (t240 - x1002_1))))) < t240) then (rubricatorref17_Cursor_Skip.l0 kj2 a1 (wrap64 (x5_1 + (mn (wrap64 (a1 - x5_1)) (wrap64 (t240 - x1002_1))))) s0_0 x1001_1 (wrap64 (x1002_1 + (mn (wrap64 (a1 - x5_1)) (wrap64 (t240 - x1002_1))))) (decide ((wrap64 (x1002_1 + (mn (wrap64 (a1 - x5_1)) (wrap64 (t240 - x1002_1))))) < t240))) else (rubricatorref17_Cursor_Skip.l0 kj2 a1 (wrap64 (x5_1 + (mn (wrap64 (a1 - x5_1)) (wrap64 (t240 - x1002_1))))) s0_0 (wrap64 (x1001_1 + 1)) (wrap64 (x1002_1 + (mn (wrap64 (a1 - x5_1)) (wrap64 (t240 - x1002_1))))) (decide ((wrap64 (x1002_1 + (mn (wrap64 (a1 - x5_1)) (wrap64 (t240 - x1002_1))))) < t240))))) else (if ((wrap64 (x1002_1 + (mn (wrap64 (a1 - x5_1)) (wrap64 ((wrap64 (x1002_1 + 1)) - x1002_1))))) < (wrap64 (x1002_1 + 1))) then (rubricatorref17_Cursor_Skip.l0 kj2 a1 (wrap64 (x5_1 + (mn (wrap64 (a1 - x5_1)) (wrap64 ((wrap64 (x1002_1 + 1)) - x1002_1))))) s0_0 x1001_1 (wrap64 (x1002_1 + (mn (wrap64 (a1 - x5_1)) (wrap64 ((wrap64 (x1002_1 + 1)) - x1002_1))))) (decide ((wrap64 (x1002_1 + (mn (wrap64 (a1 - x5_1)) (wrap64 ((wrap64 (x1002_1 + 1)) - x1002_1))))) < (wrap64 (x1002_1 + 1))))) else (rubricatorref17_Cursor_Skip.l0 kj2 a1 (wrap64 (x5_1 + (mn (wrap64 (a1 - x5_1)) (wrap64 ((wrap64 (x1002_1 + 1)) - x1002_1))))) s0_0 (wrap64 (x1001_1 + 1)) (wrap64 (x1002_1 + (mn (wrap64 (a1 - x5_1)) (wrap64 ((wrap64 (x1002_1 + 1)) - x1002_1))))) (decide ((wrap64 (x1002_1 + (mn (wrap64 (a1 - x5_1)) (wrap64 ((wrap64 (x1002_1 + 1)) - x1002_1))))) < (wrap64 (x1002_1 + 1))))))) else (none)) else (none)) = some (r1, r2, r3, r4, r5) := by rw [if_pos rfl] at H; exact H
            clear H
            have H := H1
            clear H1
            by_cases c12 : 0 ≤ x1001_1
            · rw [if_pos c12] at H
              have c12b0 : decide (0 ≤ x1001_1) = true := decide_eq_true c12
              clear c12
              by_cases c13 : x1001_1 < (s0_0.size : Int)
              · rw [if_pos c13] at H
                have c13b0 : decide (x1001_1 < (s0_0.size : Int)) = true := decide_eq_true c13
                clear c13
                by_cases c15 : (bt s0_0 x1001_1) = 9
                · rw [if_pos c15] at H
                  have c15b0 : ((bt s0_0 x1001_1) == 9) = true := beq_iff_eq.mpr c15
                  have c15b1 : ((bt s0_0 x1001_1) != 9) = false := bne_eq_false_iff_eq.mpr c15
                  clear c15
                  replace H := Option.bind_eq_some_iff.mp H
                  obtain ⟨t240, A160, H⟩ := H
                  replace H : (if ((wrap64 (x1002_1 + (mn (wrap64 (a1 - x5_1)) (wrap64 (t240 - x1002_1))))) < t240) then (rubricatorref17_Cursor_Skip.l0 kj2 a1 (wrap64 (x5_1 + (mn (wrap64 (a1 - x5_1)) (wrap64 (t240 - x1002_1))))) s0_0 x1001_1 (wrap64 (x1002_1 + (mn (wrap64 (a1 - x5_1)) (wrap64 (t240 - x1002_1))))) (decide ((wrap64 (x1002_1 + (mn (wrap64 (a1 - x5_1)) (wrap64 (t240 - x1002_1))))) < t240))) else (rubricatorref17_Cursor_Skip.l0 kj2 a1 (wrap64 (x5_1 + (mn (wrap64 (a1 - x5_1)) (wrap64 (t240 - x1002_1))))) s0_0 (wrap64 (x1001_1 + 1)) (wrap64 (x1002_1 + (mn (wrap64 (a1 - x5_1)) (wrap64 (t240 - x1002_1))))) (decide ((wrap64 (x1002_1 + (mn (wrap64 (a1 - x5_1)) (wrap64 (t240 - x1002_1))))) < t240)))) = some (r1, r2, r3, r4, r5) := H
                  have A16 := Aside0.mk A160
                  clear A160
                  obtain ⟨ji17, hji17⟩ : ∃ j_ : Int, (mn (wrap64 (a1 - x5_1)) (wrap64 (t240 - x1002_1))) = j_ := ⟨_, rfl⟩
                  replace H : (if ((wrap64 (x1002_1 + (ji17))) < t240) then (rubricatorref17_Cursor_Skip.l0 kj2 a1 (wrap64 (x5_1 + (ji17))) s0_0 x1001_1 (wrap64 (x1002_1 + (ji17))) (decide ((wrap64 (x1002_1 + (ji17))) < t240))) else (rubricatorref17_Cursor_Skip.l0 kj2 a1 (wrap64 (x5_1 + (ji17))) s0_0 (wrap64 (x1001_1 + 1)) (wrap64 (x1002_1 + (ji17))) (decide ((wrap64 (x1002_1 + (ji17))) < t240)))) = some (r1, r2, r3, r4, r5) := by first | (rw [hji17] at H; exact H) | (simp only [hji17] at H ⊢; exact H)
                  (try rw [hji17] at A16)
                  have hji17_ : (if (wrap64 (t240 - x1002_1)) < (wrap64 (a1 - x5_1)) then (wrap64 (t240 - x1002_1)) else (wrap64 (a1 - x5_1))) = ji17 := hji17
                  by_cases c18 : ((wrap64 (x1002_1 + (ji17))) < t240)
                  · rw [if_pos c18] at H
                    have c18b0 : decide ((wrap64 (x1002_1 + (ji17))) < t240) = true := decide_eq_true c18
                    clear c18
                    have H' := Aside0.mk H
                    clear H
                    obtain ⟨HGz19, hgz19⟩ := HI0.out
                    have hcz19_0 := cellS34_0 HGz19
                    have hcz19_1 := cellS34_1 HGz19
                    have hcz19_2 := cellS34_2 HGz19
                    have hcz19_3 := cellS34_3 HGz19
                    have hfz19_0 := blk_frozen HGz19 0
                    have hfz19_1 := blk_frozen HGz19 1
                    have hfz19_2 := blk_frozen HGz19 2
                    have hfz19_3 := blk_frozen HGz19 3
                    clear HGz19 hgz19
                    have p14 : 0 ≤ (x1001_1 : Int) := of_decide_eq_true (by first | (with_reducible assumption) | assumption)
                    have q14 : x1001_1 < (s0_0.size : Int) := of_decide_eq_true (by first | (with_reducible assumption) | assumption)
                    have hx14 := bt_at s0_0 x1001_1
                    replace p14 := eq_true p14
                    replace q14 := eq_true q14
                    go_wp2_with (first | (go_at_call 28; (with_reducible refine (rubricatorref17_tab.calls x1002_1 t240 _ A16.out).mono ?_); rintro e w' ⟨rfl, ⟨nd, rfl⟩⟩; (try first | exact ⟨rfl, _, World.drewN_drewN _ _ _⟩ | exact ⟨rfl, _, Eq.trans (World.drewN_drewN _ _ _) (congrArg (World.drewN _) (Nat.add_assoc _ _ _))⟩)))
                    repeat (go_quiet (first | (go_at_call 28; (with_reducible refine (rubricatorref17_tab.calls x1002_1 t240 _ A16.out).mono ?_); rintro e w' ⟨rfl, ⟨nd, rfl⟩⟩; (try first | exact ⟨rfl, _, World.drewN_drewN _ _ _⟩ | exact ⟨rfl, _, Eq.trans (World.drewN_drewN _ _ _) (congrArg (World.drewN _) (Nat.add_assoc _ _ _))⟩))); try go_wp2_with (first | (go_at_call 28; (with_reducible refine (rubricatorref17_tab.calls x1002_1 t240 _ A16.out).mono ?_); rintro e w' ⟨rfl, ⟨nd, rfl⟩⟩; (try first | exact ⟨rfl, _, World.drewN_drewN _ _ _⟩ | exact ⟨rfl, _, Eq.trans (World.drewN_drewN _ _ _) (congrArg (World.drewN _) (Nat.add_assoc _ _ _))⟩))))
                    go_roundg kj2
                    case measure => have := HK1.out; have := HJ2.out; omega
                    case rel => exact ⟨(wrap64 (x5_1 + (ji17))), (x1001_1), (wrap64 (x1002_1 + (ji17))), (decide ((wrap64 (x1002_1 + (ji17))) < t240)), (by first | rfl | (simp; done) | (simp only [← hji17] <;> (first | rfl | simp)) | (simp [*]; done)), H', ⟨by have := HK1.out; have := HJ2.out; omega⟩, ⟨by (try rw [c18b0]); repeat (first | (with_reducible first | exact HI0.out | apply IsS34.alloc | apply IsS34.drewN | apply IsS34.drew | apply IsS34.set_0 | apply IsS34.set_1 | apply IsS34.set_2 | apply IsS34.set_3) | exact HI0.out)⟩, ⟨by repeat (first | (with_reducible first | exact HK.out | apply KeepBut.set_ | apply keep_drewN | apply keep_drew | apply keep_alloc) | exact HK.out)⟩, ⟨by repeat (first | (with_reducible first | exact HB.out | apply below_alloc | apply pw_below_drewN | apply below_drew1 | refine below_set ?_ (IsS34.ge HI0.out)) | exact HB.out)⟩⟩
                  · rw [if_neg c18] at H
                    have c18b0 : decide ((wrap64 (x1002_1 + (ji17))) < t240) = false := decide_eq_false c18
                    clear c18
                    have H' := Aside0.mk H
                    clear H
                    obtain ⟨HGz20, hgz20⟩ := HI0.out
                    have hcz20_0 := cellS34_0 HGz20
                    have hcz20_1 := cellS34_1 HGz20
                    have hcz20_2 := cellS34_2 HGz20
                    have hcz20_3 := cellS34_3 HGz20
                    have hfz20_0 := blk_frozen HGz20 0
                    have hfz20_1 := blk_frozen HGz20 1
                    have hfz20_2 := blk_frozen HGz20 2
                    have hfz20_3 := blk_frozen HGz20 3
                    clear HGz20 hgz20
                    have p14 : 0 ≤ (x1001_1 : Int) := of_decide_eq_true (by first | (with_reducible assumption) | assumption)
                    have q14 : x1001_1 < (s0_0.size : Int) := of_decide_eq_true (by first | (with_reducible assumption) | assumption)
                    have hx14 := bt_at s0_0 x1001_1
                    replace p14 := eq_true p14
                    replace q14 := eq_true q14
                    go_wp2_with (first | (go_at_call 28; (with_reducible refine (rubricatorref17_tab.calls x1002_1 t240 _ A16.out).mono ?_); rintro e w' ⟨rfl, ⟨nd, rfl⟩⟩; (try first | exact ⟨rfl, _, World.drewN_drewN _ _ _⟩ | exact ⟨rfl, _, Eq.trans (World.drewN_drewN _ _ _) (congrArg (World.drewN _) (Nat.add_assoc _ _ _))⟩)))
                    repeat (go_quiet (first | (go_at_call 28; (with_reducible refine (rubricatorref17_tab.calls x1002_1 t240 _ A16.out).mono ?_); rintro e w' ⟨rfl, ⟨nd, rfl⟩⟩; (try first | exact ⟨rfl, _, World.drewN_drewN _ _ _⟩ | exact ⟨rfl, _, Eq.trans (World.drewN_drewN _ _ _) (congrArg (World.drewN _) (Nat.add_assoc _ _ _))⟩))); try go_wp2_with (first | (go_at_call 28; (with_reducible refine (rubricatorref17_tab.calls x1002_1 t240 _ A16.out).mono ?_); rintro e w' ⟨rfl, ⟨nd, rfl⟩⟩; (try first | exact ⟨rfl, _, World.drewN_drewN _ _ _⟩ | exact ⟨rfl, _, Eq.trans (World.drewN_drewN _ _ _) (congrArg (World.drewN _) (Nat.add_assoc _ _ _))⟩))))
                    go_roundg kj2
                    case measure => have := HK1.out; have := HJ2.out; omega
                    case rel => exact ⟨(wrap64 (x5_1 + (ji17))), (wrap64 (x1001_1 + 1)), (wrap64 (x1002_1 + (ji17))), (decide ((wrap64 (x1002_1 + (ji17))) < t240)), (by first | rfl | (simp; done) | (simp only [← hji17] <;> (first | rfl | simp)) | (simp [*]; done)), H', ⟨by have := HK1.out; have := HJ2.out; omega⟩, ⟨by (try rw [c18b0]); repeat (first | (with_reducible first | exact HI0.out | apply IsS34.alloc | apply IsS34.drewN | apply IsS34.drew | apply IsS34.set_0 | apply IsS34.set_1 | apply IsS34.set_2 | apply IsS34.set_3) | exact HI0.out)⟩, ⟨by repeat (first | (with_reducible first | exact HK.out | apply KeepBut.set_ | apply keep_drewN | apply keep_drew | apply keep_alloc) | exact HK.out)⟩, ⟨by repeat (first | (with_reducible first | exact HB.out | apply below_alloc | apply pw_below_drewN | apply below_drew1 | refine below_set ?_ (IsS34.ge HI0.out)) | exact HB.out)⟩⟩
                · rw [if_neg c15] at H
                  have c15b0 : ((bt s0_0 x1001_1) == 9) = false := beq_eq_false_iff_ne.mpr c15
                  have c15b1 : ((bt s0_0 x1001_1) != 9) = true := bne_iff_ne.mpr c15
                  obtain ⟨ji21, hji21⟩ : ∃ j_ : Int, (mn (wrap64 (a1 - x5_1)) (wrap64 ((wrap64 (x1002_1 + 1)) - x1002_1))) = j_ := ⟨_, rfl⟩
                  replace H : (if ((wrap64 (x1002_1 + (ji21))) < (wrap64 (x1002_1 + 1))) then (rubricatorref17_Cursor_Skip.l0 kj2 a1 (wrap64 (x5_1 + (ji21))) s0_0 x1001_1 (wrap64 (x1002_1 + (ji21))) (decide ((wrap64 (x1002_1 + (ji21))) < (wrap64 (x1002_1 + 1))))) else (rubricatorref17_Cursor_Skip.l0 kj2 a1 (wrap64 (x5_1 + (ji21))) s0_0 (wrap64 (x1001_1 + 1)) (wrap64 (x1002_1 + (ji21))) (decide ((wrap64 (x1002_1 + (ji21))) < (wrap64 (x1002_1 + 1)))))) = some (r1, r2, r3, r4, r5) := by first | (rw [hji21] at H; exact H) | (simp only [hji21] at H ⊢; exact H)
                  have hji21_ : (if (wrap64 ((wrap64 (x1002_1 + 1)) - x1002_1)) < (wrap64 (a1 - x5_1)) then (wrap64 ((wrap64 (x1002_1 + 1)) - x1002_1)) else (wrap64 (a1 - x5_1))) = ji21 := hji21
                  by_cases c22 : ((wrap64 (x1002_1 + (ji21))) < (wrap64 (x1002_1 + 1)))
                  · rw [if_pos c22] at H
                    have c22b0 : decide ((wrap64 (x1002_1 + (ji21))) < (wrap64 (x1002_1 + 1))) = true := decide_eq_true c22
                    clear c22
                    have H' := Aside0.mk H
                    clear H
                    obtain ⟨HGz23, hgz23⟩ := HI0.out
                    have hcz23_0 := cellS34_0 HGz23
                    have hcz23_1 := cellS34_1 HGz23
                    have hcz23_2 := cellS34_2 HGz23
                    have hcz23_3 := cellS34_3 HGz23
                    have hfz23_0 := blk_frozen HGz23 0
                    have hfz23_1 := blk_frozen HGz23 1
                    have hfz23_2 := blk_frozen HGz23 2
                    have hfz23_3 := blk_frozen HGz23 3
                    clear HGz23 hgz23
                    have p14 : 0 ≤ (x1001_1 : Int) := of_decide_eq_true (by first | (with_reducible assumption) | assumption)
                    have q14 : x1001_1 < (s0_0.size : Int) := of_decide_eq_true (by first | (with_reducible assumption) | assumption)
                    have hx14 := bt_at s0_0 x1001_1
                    replace p14 := eq_true p14
                    replace q14 := eq_true q14
                    go_wp2
                    repeat (go_quiet (fail); try go_wp2)
                    go_roundg kj2
                    case measure => have := HK1.out; have := HJ2.out; omega
                    case rel => exact ⟨(wrap64 (x5_1 + (ji21))), (x1001_1), (wrap64 (x1002_1 + (ji21))), (decide ((wrap64 (x1002_1 + (ji21))) < (wrap64 (x1002_1 + 1)))), (by first | rfl | (simp; done) | (simp only [← hji21] <;> (first | rfl | simp)) | (simp [*]; done)), H', ⟨by have := HK1.out; have := HJ2.out; omega⟩, ⟨by (try rw [c22b0]); repeat (first | (with_reducible first | exact HI0.out | apply IsS34.alloc | apply IsS34.drewN | apply IsS34.drew | apply IsS34.set_0 | apply IsS34.set_1 | apply IsS34.set_2 | apply IsS34.set_3) | exact HI0.out)⟩, ⟨by repeat (first | (with_reducible first | exact HK.out | apply KeepBut.set_ | apply keep_drewN | apply keep_drew | apply keep_alloc) | exact HK.out)⟩, ⟨by repeat (first | (with_reducible first | exact HB.out | apply below_alloc | apply pw_below_drewN | apply below_drew1 | refine below_set ?_ (IsS34.ge HI0.out)) | exact HB.out)⟩⟩
                  · rw [if_neg c22] at H
                    have c22b0 : decide ((wrap64 (x1002_1 + (ji21))) < (wrap64 (x1002_1 + 1))) = false := decide_eq_false c22
                    clear c22
                    have H' := Aside0.mk H
                    clear H
                    obtain ⟨HGz24, hgz24⟩ := HI0.out
                    have hcz24_0 := cellS34_0 HGz24
                    have hcz24_1 := cellS34_1 HGz24
                    have hcz24_2 := cellS34_2 HGz24
                    have hcz24_3 := cellS34_3 HGz24
                    have hfz24_0 := blk_frozen HGz24 0
                    have hfz24_1 := blk_frozen HGz24 1
                    have hfz24_2 := blk_frozen HGz24 2
                    have hfz24_3 := blk_frozen HGz24 3
                    clear HGz24 hgz24
                    have p14 : 0 ≤ (x1001_1 : Int) := of_decide_eq_true (by first | (with_reducible assumption) | assumption)
                    have q14 : x1001_1 < (s0_0.size : Int) := of_decide_eq_true (by first | (with_reducible assumption) | assumption)
                    have hx14 := bt_at s0_0 x1001_1
                    replace p14 := eq_true p14
                    replace q14 := eq_true q14
                    go_wp2
                    repeat (go_quiet (fail); try go_wp2)
                    go_roundg kj2
                    case measure => have := HK1.out; have := HJ2.out; omega
                    case rel => exact ⟨(wrap64 (x5_1 + (ji21))), (wrap64 (x1001_1 + 1)), (wrap64 (x1002_1 + (ji21))), (decide ((wrap64 (x1002_1 + (ji21))) < (wrap64 (x1002_1 + 1)))), (by first | rfl | (simp; done) | (simp only [← hji21] <;> (first | rfl | simp)) | (simp [*]; done)), H', ⟨by have := HK1.out; have := HJ2.out; omega⟩, ⟨by (try rw [c22b0]); repeat (first | (with_reducible first | exact HI0.out | apply IsS34.alloc | apply IsS34.drewN | apply IsS34.drew | apply IsS34.set_0 | apply IsS34.set_1 | apply IsS34.set_2 | apply IsS34.set_3) | exact HI0.out)⟩, ⟨by repeat (first | (with_reducible first | exact HK.out | apply KeepBut.set_ | apply keep_drewN | apply keep_drew | apply keep_alloc) | exact HK.out)⟩, ⟨by repeat (first | (with_reducible first | exact HB.out | apply below_alloc | apply pw_below_drewN | apply below_drew1 | refine below_set ?_ (IsS34.ge HI0.out)) | exact HB.out)⟩⟩
              · rw [if_neg c13] at H
                exact absurd H (by simp)
            · rw [if_neg c12] at H
              exact absurd H (by simp)
          · replace c11 := Bool.eq_false_iff.mpr c11
            subst c11
            have H1 : (some (x5_1, s0_0, x1001_1, x1002_1, x1003_1)) = some (r1, r2, r3, r4, r5) := by rw [if_neg (show ¬ (false = true) by decide)] at H; exact H
            clear H
            have H := H1
            clear H1
            simp only [Option.some.injEq, Prod.mk.injEq] at H
            obtain ⟨rfl, rfl, rfl, rfl, rfl⟩ := H
            go_wp2
            repeat (go_quiet (fail); try go_wp2)
            go_ret
            exact ⟨by first | rfl | (simp [errW_none, errW_some] <;> rfl) | (simp [*, errW_none, errW_some] <;> rfl), by repeat (first | (with_reducible first | exact HI0.out | apply IsS34.alloc | apply IsS34.drewN | apply IsS34.drew | apply IsS34.set_0 | apply IsS34.set_1 | apply IsS34.set_2 | apply IsS34.set_3) | exact HI0.out), by repeat (first | (with_reducible first | exact HB.out | apply below_alloc | apply pw_below_drewN | apply below_drew1 | refine below_set ?_ (IsS34.ge HI0.out)) | exact HB.out), by repeat (first | (with_reducible first | exact HK.out | apply KeepBut.set_ | apply keep_drewN | apply keep_drew | apply keep_alloc) | exact HK.out)⟩

/-! ### line_Cursor_Take: function 20 -/
def line_Cursor_Take.l0 : Nat → Int → Int → Int → ByteArray → Int → Int → Int → Option (ByteArray × ByteArray × Int × Int × Int)
  | 0, _, _, _, _, _, _, _ => none
  | k + 1, x5, x12, x13, x1000, x1001, x1002, x1003 => if x13 < x12 then (if x1001 = (x1000.size : Int) then (if 0 ≤ x5 then (if x5 ≤ x1001 then (if x1001 ≤ (x1000.size : Int) then (some (x1000.extract (x5 : Int).toNat (x1001 : Int).toNat, x1000, x1001, x1002, x1003)) else (none)) else (none)) else (none)) else ((line_Cursor_steps.f x1000 x1001 x1002 x1003).bind fun bt241 => (line_Cursor_Take.l0 k x5 x12 (wrap64 (x13 + 1)) bt241.1 bt241.2.1 bt241.2.2.1 bt241.2.2.2))) else (if 0 ≤ x5 then (if x5 ≤ x1001 then (if x1001 ≤ (x1000.size : Int) then (some (x1000.extract (x5 : Int).toNat (x1001 : Int).toNat, x1000, x1001, x1002, x1003)) else (none)) else (none)) else (none))
def line_Cursor_Take.f (k : Nat) (s0_0 : ByteArray) (s0_1 : Int) (s0_2 : Int) (s0_3 : Int) (a1 : Int) : Option (ByteArray × ByteArray × Int × Int × Int) := line_Cursor_Take.l0 k s0_1 a1 0 s0_0 s0_1 s0_2 s0_3
theorem line_Cursor_Take.mono_l : ∀ k, (∀ y0 y1 y2 y3 y4 y5 y6, LeO (line_Cursor_Take.l0 k y0 y1 y2 y3 y4 y5 y6) (line_Cursor_Take.l0 (k + 1) y0 y1 y2 y3 y4 y5 y6))
  | 0 => fun _ _ _ _ _ _ _ r h => by simp [line_Cursor_Take.l0] at h
  | k + 1 => by
    have ih0 := line_Cursor_Take.mono_l k
    · intro y0 y1 y2 y3 y4 y5 y6
      unfold line_Cursor_Take.l0
      repeat' first
      | (with_reducible exact ih0 _ _ _ _ _ _ _)
      | (with_reducible exact LeO.refl _)
      | (with_reducible exact LeO.none _)
      | (with_reducible refine LeO.ite ?_ ?_)
      | (with_reducible refine LeO.bind ?_ (fun _ => ?_))
      | exact ih0 _ _ _ _ _ _ _
      | exact LeO.none _
      | refine LeO.ite ?_ ?_
      | refine LeO.bind ?_ (fun _ => ?_)
theorem line_Cursor_Take.mono : ∀ a0 a1 a2 a3 a4 k, LeO (line_Cursor_Take.f k a0 a1 a2 a3 a4) (line_Cursor_Take.f (k + 1) a0 a1 a2 a3 a4) := by
  intro a0 a1 a2 a3 a4 k
  have ih0 := line_Cursor_Take.mono_l k
  unfold line_Cursor_Take.f
  repeat' first
      | (with_reducible exact ih0 _ _ _ _ _ _ _)
      | (with_reducible exact LeO.refl _)
      | (with_reducible exact LeO.none _)
      | (with_reducible refine LeO.ite ?_ ?_)
      | (with_reducible refine LeO.bind ?_ (fun _ => ?_))
      | exact ih0 _ _ _ _ _ _ _
      | exact LeO.none _
      | refine LeO.ite ?_ ?_
      | refine LeO.bind ?_ (fun _ => ?_)
set_option maxHeartbeats 8000000 in
set_option maxRecDepth 100000 in
theorem line_Cursor_Take.calls (k : Nat) (g : Nat) (s0_0 : ByteArray) (s0_1 : Int) (s0_2 : Int) (s0_3 : Int) (a1 : Int) (r1 : ByteArray) (r2 : ByteArray) (r3 : Int) (r4 : Int) (r5 : Int) (w0 w : World) (hI : IsS41 w0 w g s0_0 s0_1 s0_2 s0_3) (hB : Below w0.heap.size w0 w) (h : line_Cursor_Take.f k s0_0 s0_1 s0_2 s0_3 a1 = some (r1, r2, r3, r4, r5)) :
    Calls Tryd.prog 20 #[.pointer (some ⟨g, 0, none⟩), .int .i64 a1] w fun e w' => e = .returned (.string r1) ∧ IsS41 w0 w' g r2 r3 r4 r5 ∧ Below w0.heap.size w0 w' ∧ KeepBut w w' g none := by
  have HI0 := Aside0.mk hI
  have HK := Aside0.mk (KeepBut.refl w g none)
  have HL := Aside0.mk hB.size
  clear hI
  have HW0 := Aside0.mk hB.size
  have HB := Aside0.mk hB
  clear hB
  have H : (line_Cursor_Take.l0 k s0_1 a1 0 s0_0 s0_1 s0_2 s0_3) = some (r1, r2, r3, r4, r5) := h
  clear h
  have H' := Aside0.mk H
  clear H
  obtain ⟨HGz3, hgz3⟩ := HI0.out
  have hcz3_0 := cellS41_0 HGz3
  have hcz3_1 := cellS41_1 HGz3
  have hcz3_2 := cellS41_2 HGz3
  have hcz3_3 := cellS41_3 HGz3
  have hfz3_0 := blk_frozen HGz3 0
  have hfz3_1 := blk_frozen HGz3 1
  have hfz3_2 := blk_frozen HGz3 2
  have hfz3_3 := blk_frozen HGz3 3
  clear HGz3 hgz3
  go_enter Tryd.func20, Tryd.ntmps20
  go_wp2
  repeat (go_quiet (fail); try go_wp2)
  go_loopg [13] k (fun kq v13 w' => ∃ (x13_1 : Int) (x1000_1 : ByteArray) (x1001_1 : Int) (x1002_1 : Int) (x1003_1 : Int), v13 = .int .i64 x13_1 ∧ Aside0 (line_Cursor_Take.l0 kq s0_1 a1 x13_1 x1000_1 x1001_1 x1002_1 x1003_1 = some (r1, r2, r3, r4, r5)) ∧ Aside0 (kq ≤ k) ∧ Aside0 (IsS41 w0 w' g x1000_1 x1001_1 x1002_1 x1003_1) ∧ Aside0 (KeepBut w w' g none) ∧ Aside0 (Below w0.heap.size w0 w'))
  case atStart => exact ⟨(0), (s0_0), (s0_1), (s0_2), (s0_3), (by first | rfl | (simp; done) | (simp [*]; done)), H', ⟨Nat.le_refl _⟩, ⟨by repeat (first | (with_reducible first | exact HI0.out | apply IsS41.alloc | apply IsS41.drewN | apply IsS41.drew | apply IsS41.set_0 | apply IsS41.set_1 | apply IsS41.set_2 | apply IsS41.set_3) | exact HI0.out)⟩, ⟨by repeat (first | (with_reducible first | exact HK.out | apply KeepBut.set_ | apply keep_drewN | apply keep_drew | apply keep_alloc) | exact HK.out)⟩, ⟨by repeat (first | (with_reducible first | exact HB.out | apply below_alloc | apply pw_below_drewN | apply below_drew1 | refine below_set ?_ (IsS41.ge HI0.out)) | exact HB.out)⟩⟩
  case round =>
    clear H'
    try clear c2
    try clear p2
    try clear hcz3_0
    try clear hcz3_1
    try clear hcz3_2
    try clear hcz3_3
    try clear hfz3_0
    try clear hfz3_1
    try clear hfz3_2
    try clear hfz3_3
    obtain ⟨x13_1, x1000_1, x1001_1, x1002_1, x1003_1, rfl, HA, HK1, HI0, HK, HB⟩ := hrel
    cases gk with
    | zero => exact absurd HA.out (by simp [line_Cursor_Take.l0])
    | succ k1 =>
      have H := HA.out
      clear HA
      simp only [line_Cursor_Take.l0] at H
      by_cases c4 : x13_1 < a1
      · rw [if_pos c4] at H
        have c4b0 : decide (x13_1 < a1) = true := decide_eq_true c4
        clear c4
        by_cases c5 : x1001_1 = (x1000_1.size : Int)
        · rw [if_pos c5] at H
          have c5b0 : (x1001_1 == (x1000_1.size : Int)) = true := beq_iff_eq.mpr c5
          have c5b1 : (x1001_1 != (x1000_1.size : Int)) = false := bne_eq_false_iff_eq.mpr c5
          clear c5
          by_cases c6 : 0 ≤ s0_1
          · rw [if_pos c6] at H
            have c6b0 := eq_true c6
            have c6b1 : decide (0 ≤ s0_1) = true := decide_eq_true c6
            clear c6
            by_cases c7 : s0_1 ≤ x1001_1
            · rw [if_pos c7] at H
              have c7b0 := eq_true c7
              have c7b1 : decide (s0_1 ≤ x1001_1) = true := decide_eq_true c7
              clear c7
              by_cases c8 : x1001_1 ≤ (x1000_1.size : Int)
              · rw [if_pos c8] at H
                have c8b0 := eq_true c8
                have c8b1 : decide (x1001_1 ≤ (x1000_1.size : Int)) = true := decide_eq_true c8
                clear c8
                simp only [Option.some.injEq, Prod.mk.injEq] at H
                obtain ⟨rfl, rfl, rfl, rfl, rfl⟩ := H
                obtain ⟨HGz9, hgz9⟩ := HI0.out
                have hcz9_0 := cellS41_0 HGz9
                have hcz9_1 := cellS41_1 HGz9
                have hcz9_2 := cellS41_2 HGz9
                have hcz9_3 := cellS41_3 HGz9
                have hfz9_0 := blk_frozen HGz9 0
                have hfz9_1 := blk_frozen HGz9 1
                have hfz9_2 := blk_frozen HGz9 2
                have hfz9_3 := blk_frozen HGz9 3
                clear HGz9 hgz9
                go_wp2
                repeat (go_quiet (fail); try go_wp2)
                go_ret
                exact ⟨by first | rfl | (simp [errW_none, errW_some] <;> rfl) | (simp [*, errW_none, errW_some] <;> rfl), by repeat (first | (with_reducible first | exact HI0.out | apply IsS41.alloc | apply IsS41.drewN | apply IsS41.drew | apply IsS41.set_0 | apply IsS41.set_1 | apply IsS41.set_2 | apply IsS41.set_3) | exact HI0.out), by repeat (first | (with_reducible first | exact HB.out | apply below_alloc | apply pw_below_drewN | apply below_drew1 | refine below_set ?_ (IsS41.ge HI0.out)) | exact HB.out), by repeat (first | (with_reducible first | exact HK.out | apply KeepBut.set_ | apply keep_drewN | apply keep_drew | apply keep_alloc) | exact HK.out)⟩
              · rw [if_neg c8] at H
                exact absurd H (by simp)
            · rw [if_neg c7] at H
              exact absurd H (by simp)
          · rw [if_neg c6] at H
            exact absurd H (by simp)
        · rw [if_neg c5] at H
          have c5b0 : (x1001_1 == (x1000_1.size : Int)) = false := beq_eq_false_iff_ne.mpr c5
          have c5b1 : (x1001_1 != (x1000_1.size : Int)) = true := bne_iff_ne.mpr c5
          replace H := Option.bind_eq_some_iff.mp H
          obtain ⟨⟨t241, t242, t243, t244⟩, A100, H⟩ := H
          replace H : (line_Cursor_Take.l0 k1 s0_1 a1 (wrap64 (x13_1 + 1)) t241 t242 t243 t244) = some (r1, r2, r3, r4, r5) := H
          have A10 := Aside0.mk A100
          clear A100
          have H' := Aside0.mk H
          clear H
          obtain ⟨HGz11, hgz11⟩ := HI0.out
          have hcz11_0 := cellS41_0 HGz11
          have hcz11_1 := cellS41_1 HGz11
          have hcz11_2 := cellS41_2 HGz11
          have hcz11_3 := cellS41_3 HGz11
          have hfz11_0 := blk_frozen HGz11 0
          have hfz11_1 := blk_frozen HGz11 1
          have hfz11_2 := blk_frozen HGz11 2
          have hfz11_3 := blk_frozen HGz11 3
          clear HGz11 hgz11
          go_wp2_with (first | (go_at_call 23; (with_reducible refine (line_Cursor_steps.calls g x1000_1 x1001_1 x1002_1 x1003_1 t241 t242 t243 t244 w0 _ ?side1 ?side2 A10.out).mono ?_); (case side1 => repeat (first | (with_reducible first | exact HI0.out | apply IsS41.alloc | apply IsS41.drewN | apply IsS41.drew | apply IsS41.set_0 | apply IsS41.set_1 | apply IsS41.set_2 | apply IsS41.set_3) | exact HI0.out)); (case side2 => repeat (first | (with_reducible first | exact HB.out | apply below_alloc | apply pw_below_drewN | apply below_drew1 | refine below_set ?_ (IsS41.ge HI0.out)) | exact HB.out)); rintro e w12 ⟨rfl, hi, hb, hk⟩; have n0_ := Aside0.mk (KeepBut.trans (by repeat (first | (with_reducible first | exact HK.out | apply KeepBut.set_ | apply keep_drewN | apply keep_drew | apply keep_alloc) | exact HK.out)) hk (.inl rfl)); have n1_ := Aside0.mk (hb); have n2_ := Aside0.mk (hi); clear HK; clear HB; clear HI0; have HK := n0_; have HB := n1_; have HI0 := n2_; clear n0_ n1_ n2_; (try clear hb); (try clear hb2); (try clear hk); (try clear hi)))
          repeat (go_quiet (first | (go_at_call 23; (with_reducible refine (line_Cursor_steps.calls g x1000_1 x1001_1 x1002_1 x1003_1 t241 t242 t243 t244 w0 _ ?side1 ?side2 A10.out).mono ?_); (case side1 => repeat (first | (with_reducible first | exact HI0.out | apply IsS41.alloc | apply IsS41.drewN | apply IsS41.drew | apply IsS41.set_0 | apply IsS41.set_1 | apply IsS41.set_2 | apply IsS41.set_3) | exact HI0.out)); (case side2 => repeat (first | (with_reducible first | exact HB.out | apply below_alloc | apply pw_below_drewN | apply below_drew1 | refine below_set ?_ (IsS41.ge HI0.out)) | exact HB.out)); rintro e w12 ⟨rfl, hi, hb, hk⟩; have n0_ := Aside0.mk (KeepBut.trans (by repeat (first | (with_reducible first | exact HK.out | apply KeepBut.set_ | apply keep_drewN | apply keep_drew | apply keep_alloc) | exact HK.out)) hk (.inl rfl)); have n1_ := Aside0.mk (hb); have n2_ := Aside0.mk (hi); clear HK; clear HB; clear HI0; have HK := n0_; have HB := n1_; have HI0 := n2_; clear n0_ n1_ n2_; (try clear hb); (try clear hb2); (try clear hk); (try clear hi))); try go_wp2_with (first | (go_at_call 23; (with_reducible refine (line_Cursor_steps.calls g x1000_1 x1001_1 x1002_1 x1003_1 t241 t242 t243 t244 w0 _ ?side1 ?side2 A10.out).mono ?_); (case side1 => repeat (first | (with_reducible first | exact HI0.out | apply IsS41.alloc | apply IsS41.drewN | apply IsS41.drew | apply IsS41.set_0 | apply IsS41.set_1 | apply IsS41.set_2 | apply IsS41.set_3) | exact HI0.out)); (case side2 => repeat (first | (with_reducible first | exact HB.out | apply below_alloc | apply pw_below_drewN | apply below_drew1 | refine below_set ?_ (IsS41.ge HI0.out)) | exact HB.out)); rintro e w12 ⟨rfl, hi, hb, hk⟩; have n0_ := Aside0.mk (KeepBut.trans (by repeat (first | (with_reducible first | exact HK.out | apply KeepBut.set_ | apply keep_drewN | apply keep_drew | apply keep_alloc) | exact HK.out)) hk (.inl rfl)); have n1_ := Aside0.mk (hb); have n2_ := Aside0.mk (hi); clear HK; clear HB; clear HI0; have HK := n0_; have HB := n1_; have HI0 := n2_; clear n0_ n1_ n2_; (try clear hb); (try clear hb2); (try clear hk); (try clear hi))))
          go_roundg k1
          case measure => have := HK1.out; omega
          case rel => exact ⟨(wrap64 (x13_1 + 1)), (t241), (t242), (t243), (t244), (by first | rfl | (simp; done) | (simp [*]; done)), H', ⟨by have := HK1.out; omega⟩, ⟨by repeat (first | (with_reducible first | exact HI0.out | apply IsS41.alloc | apply IsS41.drewN | apply IsS41.drew | apply IsS41.set_0 | apply IsS41.set_1 | apply IsS41.set_2 | apply IsS41.set_3) | exact HI0.out)⟩, ⟨by repeat (first | (with_reducible first | exact HK.out | apply KeepBut.set_ | apply keep_drewN | apply keep_drew | apply keep_alloc) | exact HK.out)⟩, ⟨by repeat (first | (with_reducible first | exact HB.out | apply below_alloc | apply pw_below_drewN | apply below_drew1 | refine below_set ?_ (IsS41.ge HI0.out)) | exact HB.out)⟩⟩
      · rw [if_neg c4] at H
        have c4b0 : decide (x13_1 < a1) = false := decide_eq_false c4
        clear c4
        by_cases c13 : 0 ≤ s0_1
        · rw [if_pos c13] at H
          have c13b0 := eq_true c13
          have c13b1 : decide (0 ≤ s0_1) = true := decide_eq_true c13
          clear c13
          by_cases c14 : s0_1 ≤ x1001_1
          · rw [if_pos c14] at H
            have c14b0 := eq_true c14
            have c14b1 : decide (s0_1 ≤ x1001_1) = true := decide_eq_true c14
            clear c14
            by_cases c15 : x1001_1 ≤ (x1000_1.size : Int)
            · rw [if_pos c15] at H
              have c15b0 := eq_true c15
              have c15b1 : decide (x1001_1 ≤ (x1000_1.size : Int)) = true := decide_eq_true c15
              clear c15
              simp only [Option.some.injEq, Prod.mk.injEq] at H
              obtain ⟨rfl, rfl, rfl, rfl, rfl⟩ := H
              obtain ⟨HGz16, hgz16⟩ := HI0.out
              have hcz16_0 := cellS41_0 HGz16
              have hcz16_1 := cellS41_1 HGz16
              have hcz16_2 := cellS41_2 HGz16
              have hcz16_3 := cellS41_3 HGz16
              have hfz16_0 := blk_frozen HGz16 0
              have hfz16_1 := blk_frozen HGz16 1
              have hfz16_2 := blk_frozen HGz16 2
              have hfz16_3 := blk_frozen HGz16 3
              clear HGz16 hgz16
              go_wp2
              repeat (go_quiet (fail); try go_wp2)
              go_ret
              exact ⟨by first | rfl | (simp [errW_none, errW_some] <;> rfl) | (simp [*, errW_none, errW_some] <;> rfl), by repeat (first | (with_reducible first | exact HI0.out | apply IsS41.alloc | apply IsS41.drewN | apply IsS41.drew | apply IsS41.set_0 | apply IsS41.set_1 | apply IsS41.set_2 | apply IsS41.set_3) | exact HI0.out), by repeat (first | (with_reducible first | exact HB.out | apply below_alloc | apply pw_below_drewN | apply below_drew1 | refine below_set ?_ (IsS41.ge HI0.out)) | exact HB.out), by repeat (first | (with_reducible first | exact HK.out | apply KeepBut.set_ | apply keep_drewN | apply keep_drew | apply keep_alloc) | exact HK.out)⟩
            · rw [if_neg c15] at H
              exact absurd H (by simp)
          · rw [if_neg c14] at H
            exact absurd H (by simp)
        · rw [if_neg c13] at H
          exact absurd H (by simp)

end Go.Proofs.YtbhopjcicdjjpaaDoor.PA
