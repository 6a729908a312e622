-- Printed by a program of this workplace (a turned printer): functions, and proofs that the calls come to them.
import Derived.Test.YtojmhdooglihaaaPAx0
namespace Go.Proofs.Ytojmhdooglihaaa.PA
open Go.RowKit Go.Proofs.YtojmhdooglihaaaW.PrintWords Go.Proofs.YtojmhdooglihaaaW.PrintLast Go.Proofs.YtojmhdooglihaaaW.PrintMore
attribute [local go_sem] max2_int min2_int max_two min_two max_three min_three max_four min_four   -- for this text's walks alone
set_option linter.unusedVariables false
set_option linter.unusedSimpArgs false

/-! ### delim_Match: function 10 -/
def fitsTail (a b : S27) : Bool :=
  if a.f3 = true then (if Int.tmod (wrap64 (Int.tmod a.f1 3 + Int.tmod b.f1 3)) 3 = 0 then (if Int.tmod a.f1 3 = 0 then decide (Int.tmod b.f1 3 = 0) else false) else true)
  else if b.f2 = true then (if b.f3 = true then (if Int.tmod (wrap64 (Int.tmod a.f1 3 + Int.tmod b.f1 3)) 3 = 0 then (if Int.tmod a.f1 3 = 0 then decide (Int.tmod b.f1 3 = 0) else false) else true) else true)
  else true
def fitsF (l : List S27) (left : List Int) (out : List Bool) (x y : Int) : Bool :=
  if rdOf false out x = true then false
  else if (rd_T27 l x).f2 = true then
    (if (rd_T27 l x).f0 = (rd_T27 l y).f0 then (if rd left x ≤ 0 then false else fitsTail (rd_T27 l x) (rd_T27 l y)) else false)
  else false
set_option maxHeartbeats 4000000 in
set_option maxRecDepth 100000 in
theorem fits.calls (m gl gO c1 c2 c3 : Nat) (AL : Option Addr) (l : List S27) (left : List Int) (out : List Bool) (x y : Int) (w : World)
  (hm0 : w.cell? ⟨m, 0, none⟩ = some (.slice AL l.length c1)) (hm1 : w.cell? ⟨m, 1, none⟩ = some (.slice (some ⟨gl, 0, none⟩) l.length c2)) (hm2 : w.cell? ⟨m, 2, none⟩ = some (.slice (some ⟨gO, 0, none⟩) l.length c3))
  (hl : Kd.C k27 w AL l.length l) (hf : w.cell? ⟨gl, x.toNat, none⟩ = some (.int .i64 (rd left x))) (ho : w.cell? ⟨gO, x.toNat, none⟩ = some (.bool (rdOf false out x)))
  (x0 : 0 ≤ x) (x1 : x < l.length) (y0 : 0 ≤ y) (y1 : y < l.length) :
    Calls Try.prog 15 #[.pointer (some ⟨m, 0, none⟩), .int .i64 x, .int .i64 y] w fun e w' => e = .returned (.bool (fitsF l left out x y)) ∧ Below w.heap.size w w' := by
  obtain ⟨ad, hA, a0, a1, a2, a3⟩ := at_T27 hl x x0 x1
  obtain ⟨ad', hA', b0, b1, b2, b3⟩ := at_T27 hl y y0 y1
  rw [hA] at hA'
  cases hA'
  subst hA
  have hmlt : m < w.heap.size := World.block_lt_of_cell? w _ hm0
  have hllt : gl < w.heap.size := World.block_lt_of_cell? w _ hf
  have holt : gO < w.heap.size := World.block_lt_of_cell? w _ ho
  have q0 := World.block_lt_of_cell? w _ a0
  have q1 : (ad.add (y.toNat * 4)).block < w.heap.size := World.block_lt_of_cell? w _ b0
  have dx1 : decide (x < (l.length : Int)) = true := decide_eq_true x1
  have dy1 : decide (y < (l.length : Int)) = true := decide_eq_true y1
  have dx0 : decide (0 ≤ x) = true := decide_eq_true x0
  have dy0 : decide (0 ≤ y) = true := decide_eq_true y0
  obtain ⟨u0, e0⟩ : ∃ u, u = (rd_T27 l x).f0 := ⟨_, rfl⟩
  obtain ⟨u1, e1⟩ : ∃ u, u = (rd_T27 l x).f1 := ⟨_, rfl⟩
  obtain ⟨u2, e2⟩ : ∃ u, u = (rd_T27 l x).f2 := ⟨_, rfl⟩
  obtain ⟨u3, e3⟩ : ∃ u, u = (rd_T27 l x).f3 := ⟨_, rfl⟩
  obtain ⟨v0, f0⟩ : ∃ u, u = (rd_T27 l y).f0 := ⟨_, rfl⟩
  obtain ⟨v1, f1⟩ : ∃ u, u = (rd_T27 l y).f1 := ⟨_, rfl⟩
  obtain ⟨v2, f2⟩ : ∃ u, u = (rd_T27 l y).f2 := ⟨_, rfl⟩
  obtain ⟨v3, f3⟩ : ∃ u, u = (rd_T27 l y).f3 := ⟨_, rfl⟩
  obtain ⟨o, eo⟩ : ∃ u, u = rdOf false out x := ⟨_, rfl⟩
  obtain ⟨t, et⟩ : ∃ u, u = rd left x := ⟨_, rfl⟩
  rw [← e0] at a0; rw [← e1] at a1; rw [← e2] at a2; rw [← e3] at a3
  rw [← f0] at b0; rw [← f1] at b1; rw [← f2] at b2; rw [← f3] at b3
  rw [← eo] at ho; rw [← et] at hf
  obtain ⟨r, er⟩ : ∃ r, r = fitsF l left out x y := ⟨_, rfl⟩
  rw [← er]
  unfold fitsF fitsTail at er
  rw [← e0, ← e1, ← e2, ← e3, ← f0, ← f1, ← f2, ← f3, ← eo, ← et] at er
  clear e0 e1 e2 e3 f0 f1 f2 f3 eo et hl
  by_cases c1 : o = true
  · subst c1
    simp only [if_true, reduceIte, decide_true, decide_false] at er
    subst er
    go_enter Try.func15, Try.ntmps15
    go_wp2
    go_region
    all_goals (go_wp2; go_ret; exact ⟨rfl, by repeat (first | (with_reducible first | exact Below.refl _ _ | apply below_alloc | apply pw_below_drewN | apply below_drew1) | exact Below.refl _ _)⟩)
  · obtain rfl : o = false := by simpa using c1
    simp only [Bool.false_eq_true, if_false, reduceIte] at er
    by_cases c2 : u2 = true
    · subst c2
      simp only [if_true, reduceIte, decide_true, decide_false] at er
      by_cases c3 : u0 = v0
      · rw [if_pos c3] at er
        have c3a : (u0 == v0) = true := beq_iff_eq.mpr c3
        have c3b : (u0 != v0) = false := bne_eq_false_iff_eq.mpr c3
        clear c3
        by_cases cl : t ≤ 0
        · rw [if_pos cl] at er
          have cla : decide (t ≤ 0) = true := decide_eq_true cl
          clear cl
          subst er
          go_enter Try.func15, Try.ntmps15
          go_wp2
          go_region
          all_goals (go_wp2; go_ret; exact ⟨rfl, by repeat (first | (with_reducible first | exact Below.refl _ _ | apply below_alloc | apply pw_below_drewN | apply below_drew1) | exact Below.refl _ _)⟩)
        · rw [if_neg cl] at er
          have cla : decide (t ≤ 0) = false := decide_eq_false cl
          clear cl
          by_cases c4 : u3 = true
          · subst c4
            simp only [if_true, reduceIte, decide_true, decide_false] at er
            by_cases c6 : Int.tmod (wrap64 (Int.tmod u1 3 + Int.tmod v1 3)) 3 = 0
            · rw [if_pos c6] at er
              have c6a : (Int.tmod (wrap64 (Int.tmod u1 3 + Int.tmod v1 3)) 3 == 0) = true := beq_iff_eq.mpr c6
              have c6b : (Int.tmod (wrap64 (Int.tmod u1 3 + Int.tmod v1 3)) 3 != 0) = false := bne_eq_false_iff_eq.mpr c6
              clear c6
              by_cases c7 : Int.tmod u1 3 = 0
              · rw [if_pos c7] at er
                have c7a : (Int.tmod u1 3 == 0) = true := beq_iff_eq.mpr c7
                have c7b : (Int.tmod u1 3 != 0) = false := bne_eq_false_iff_eq.mpr c7
                clear c7
                by_cases c8 : Int.tmod v1 3 = 0
                · have c8a : (Int.tmod v1 3 == 0) = true := beq_iff_eq.mpr c8
                  rw [decide_eq_true c8] at er
                  clear c8
                  subst er
                  go_enter Try.func15, Try.ntmps15
                  go_wp2
                  go_region
                  all_goals (go_wp2; go_quiet (fail); go_wp2; go_ret; exact ⟨rfl, by repeat (first | (with_reducible first | exact Below.refl _ _ | apply below_alloc | apply pw_below_drewN | apply below_drew1) | exact Below.refl _ _)⟩)
                · have c8a : (Int.tmod v1 3 == 0) = false := beq_eq_false_iff_ne.mpr c8
                  rw [decide_eq_false c8] at er
                  clear c8
                  subst er
                  go_enter Try.func15, Try.ntmps15
                  go_wp2
                  go_region
                  all_goals (go_wp2; go_quiet (fail); go_wp2; go_ret; exact ⟨rfl, by repeat (first | (with_reducible first | exact Below.refl _ _ | apply below_alloc | apply pw_below_drewN | apply below_drew1) | exact Below.refl _ _)⟩)
              · rw [if_neg c7] at er
                have c7a : (Int.tmod u1 3 == 0) = false := beq_eq_false_iff_ne.mpr c7
                have c7b : (Int.tmod u1 3 != 0) = true := bne_iff_ne.mpr c7
                clear c7
                subst er
                go_enter Try.func15, Try.ntmps15
                go_wp2
                go_region
                all_goals (go_wp2; go_quiet (fail); go_wp2; go_ret; exact ⟨rfl, by repeat (first | (with_reducible first | exact Below.refl _ _ | apply below_alloc | apply pw_below_drewN | apply below_drew1) | exact Below.refl _ _)⟩)
            · rw [if_neg c6] at er
              have c6a : (Int.tmod (wrap64 (Int.tmod u1 3 + Int.tmod v1 3)) 3 == 0) = false := beq_eq_false_iff_ne.mpr c6
              have c6b : (Int.tmod (wrap64 (Int.tmod u1 3 + Int.tmod v1 3)) 3 != 0) = true := bne_iff_ne.mpr c6
              clear c6
              subst er
              go_enter Try.func15, Try.ntmps15
              go_wp2
              go_region
              all_goals (go_wp2; go_quiet (fail); go_wp2; go_ret; exact ⟨rfl, by repeat (first | (with_reducible first | exact Below.refl _ _ | apply below_alloc | apply pw_below_drewN | apply below_drew1) | exact Below.refl _ _)⟩)
          · obtain rfl : u3 = false := by simpa using c4
            simp only [Bool.false_eq_true, if_false, reduceIte] at er
            by_cases c5 : v2 = true
            · subst c5
              simp only [if_true, reduceIte, decide_true, decide_false] at er
              by_cases c9 : v3 = true
              · subst c9
                simp only [if_true, reduceIte, decide_true, decide_false] at er
                by_cases c6 : Int.tmod (wrap64 (Int.tmod u1 3 + Int.tmod v1 3)) 3 = 0
                · rw [if_pos c6] at er
                  have c6a : (Int.tmod (wrap64 (Int.tmod u1 3 + Int.tmod v1 3)) 3 == 0) = true := beq_iff_eq.mpr c6
                  have c6b : (Int.tmod (wrap64 (Int.tmod u1 3 + Int.tmod v1 3)) 3 != 0) = false := bne_eq_false_iff_eq.mpr c6
                  clear c6
                  by_cases c7 : Int.tmod u1 3 = 0
                  · rw [if_pos c7] at er
                    have c7a : (Int.tmod u1 3 == 0) = true := beq_iff_eq.mpr c7
                    have c7b : (Int.tmod u1 3 != 0) = false := bne_eq_false_iff_eq.mpr c7
                    clear c7
                    by_cases c8 : Int.tmod v1 3 = 0
                    · have c8a : (Int.tmod v1 3 == 0) = true := beq_iff_eq.mpr c8
                      rw [decide_eq_true c8] at er
                      clear c8
                      subst er
                      go_enter Try.func15, Try.ntmps15
                      go_wp2
                      go_region
                      all_goals (go_wp2; go_quiet (fail); go_wp2; go_ret; exact ⟨rfl, by repeat (first | (with_reducible first | exact Below.refl _ _ | apply below_alloc | apply pw_below_drewN | apply below_drew1) | exact Below.refl _ _)⟩)
                    · have c8a : (Int.tmod v1 3 == 0) = false := beq_eq_false_iff_ne.mpr c8
                      rw [decide_eq_false c8] at er
                      clear c8
                      subst er
                      go_enter Try.func15, Try.ntmps15
                      go_wp2
                      go_region
                      all_goals (go_wp2; go_quiet (fail); go_wp2; go_ret; exact ⟨rfl, by repeat (first | (with_reducible first | exact Below.refl _ _ | apply below_alloc | apply pw_below_drewN | apply below_drew1) | exact Below.refl _ _)⟩)
                  · rw [if_neg c7] at er
                    have c7a : (Int.tmod u1 3 == 0) = false := beq_eq_false_iff_ne.mpr c7
                    have c7b : (Int.tmod u1 3 != 0) = true := bne_iff_ne.mpr c7
                    clear c7
                    subst er
                    go_enter Try.func15, Try.ntmps15
                    go_wp2
                    go_region
                    all_goals (go_wp2; go_quiet (fail); go_wp2; go_ret; exact ⟨rfl, by repeat (first | (with_reducible first | exact Below.refl _ _ | apply below_alloc | apply pw_below_drewN | apply below_drew1) | exact Below.refl _ _)⟩)
                · rw [if_neg c6] at er
                  have c6a : (Int.tmod (wrap64 (Int.tmod u1 3 + Int.tmod v1 3)) 3 == 0) = false := beq_eq_false_iff_ne.mpr c6
                  have c6b : (Int.tmod (wrap64 (Int.tmod u1 3 + Int.tmod v1 3)) 3 != 0) = true := bne_iff_ne.mpr c6
                  clear c6
                  subst er
                  go_enter Try.func15, Try.ntmps15
                  go_wp2
                  go_region
                  all_goals (go_wp2; go_quiet (fail); go_wp2; go_ret; exact ⟨rfl, by repeat (first | (with_reducible first | exact Below.refl _ _ | apply below_alloc | apply pw_below_drewN | apply below_drew1) | exact Below.refl _ _)⟩)
              · obtain rfl : v3 = false := by simpa using c9
                simp only [Bool.false_eq_true, if_false, reduceIte] at er
                subst er
                go_enter Try.func15, Try.ntmps15
                go_wp2
                go_region
                all_goals (go_wp2; go_quiet (fail); go_wp2; go_ret; exact ⟨rfl, by repeat (first | (with_reducible first | exact Below.refl _ _ | apply below_alloc | apply pw_below_drewN | apply below_drew1) | exact Below.refl _ _)⟩)
            · obtain rfl : v2 = false := by simpa using c5
              simp only [Bool.false_eq_true, if_false, reduceIte] at er
              subst er
              go_enter Try.func15, Try.ntmps15
              go_wp2
              go_region
              all_goals (go_wp2; go_quiet (fail); go_wp2; go_ret; exact ⟨rfl, by repeat (first | (with_reducible first | exact Below.refl _ _ | apply below_alloc | apply pw_below_drewN | apply below_drew1) | exact Below.refl _ _)⟩)
      · rw [if_neg c3] at er
        have c3a : (u0 == v0) = false := beq_eq_false_iff_ne.mpr c3
        have c3b : (u0 != v0) = true := bne_iff_ne.mpr c3
        clear c3
        subst er
        go_enter Try.func15, Try.ntmps15
        go_wp2
        go_region
        all_goals (go_wp2; go_ret; exact ⟨rfl, by repeat (first | (with_reducible first | exact Below.refl _ _ | apply below_alloc | apply pw_below_drewN | apply below_drew1) | exact Below.refl _ _)⟩)
    · obtain rfl : u2 = false := by simpa using c2
      simp only [Bool.false_eq_true, if_false, reduceIte] at er
      subst er
      go_enter Try.func15, Try.ntmps15
      go_wp2
      go_region
      all_goals (go_wp2; go_ret; exact ⟨rfl, by repeat (first | (with_reducible first | exact Below.refl _ _ | apply below_alloc | apply pw_below_drewN | apply below_drew1) | exact Below.refl _ _)⟩)
/-- A matcher at block m: its marks' row is elsewhere, its two other rows are the call's own, at blocks gl and gO. -/
structure Mst (b0 : Nat) (w : World) (m gl gO : Nat) (AL : Option Addr) (n c1 c2 c3 : Nat) (left : List Int) (out : List Bool) : Prop where
  blk : w.heap[m]? = some (.cells #[.slice AL n c1, .slice (some ⟨gl, 0, none⟩) n c2, .slice (some ⟨gO, 0, none⟩) n c3] 45 (0, 0))
  rl : Kd.R (Kd.int .i64) 3 w b0 (fun k => k = gl) (.slice (some ⟨gl, 0, none⟩) n c2) left
  rO : Kd.R Kd.bool 4 w b0 (fun k => k = gO) (.slice (some ⟨gO, 0, none⟩) n c3) out
  mb : b0 ≤ m
  n1 : m ≠ gl
  n2 : m ≠ gO
  n3 : gl ≠ gO
theorem R_base {α : Type} {d : Kd α} {e : Nat} {w : World} {base : Nat} {ok : Nat → Prop} {g n c : Nat} {xs : List α} (h : d.R e w base ok (.slice (some ⟨g, 0, none⟩) n c) xs) : base ≤ g ∧ g < w.heap.size := by
  obtain ⟨_, _, ho, _⟩ := h
  exact ⟨own_base ho g rfl, own_lt ho g rfl⟩
section
variable {b0 m gl gO n c1 c2 c3 : Nat} {w : World} {AL : Option Addr} {left : List Int} {out : List Bool}
theorem Mst.lts (h : Mst b0 w m gl gO AL n c1 c2 c3 left out) : m < w.heap.size ∧ gl < w.heap.size ∧ gO < w.heap.size ∧ b0 ≤ gl ∧ b0 ≤ gO := ⟨blk_lt h.blk, (R_base h.rl).2, (R_base h.rO).2, (R_base h.rl).1, (R_base h.rO).1⟩
theorem Mst.m0 (h : Mst b0 w m gl gO AL n c1 c2 c3 left out) : w.cell? ⟨m, 0, none⟩ = some (.slice AL n c1) := blk_cell h.blk 0
theorem Mst.m1 (h : Mst b0 w m gl gO AL n c1 c2 c3 left out) : w.cell? ⟨m, 1, none⟩ = some (.slice (some ⟨gl, 0, none⟩) n c2) := blk_cell h.blk 1
theorem Mst.m2 (h : Mst b0 w m gl gO AL n c1 c2 c3 left out) : w.cell? ⟨m, 2, none⟩ = some (.slice (some ⟨gO, 0, none⟩) n c3) := blk_cell h.blk 2
theorem Mst.cl (h : Mst b0 w m gl gO AL n c1 c2 c3 left out) (i : Int) (h0 : 0 ≤ i) (hi : i < n) : w.cell? ⟨gl, i.toNat, none⟩ = some (.int .i64 (rd left i)) ∧ w.frozen? ⟨gl, i.toNat, none⟩ = false := Kd.R_celln 0 h.rl i h0 hi
theorem Mst.co (h : Mst b0 w m gl gO AL n c1 c2 c3 left out) (i : Int) (h0 : 0 ≤ i) (hi : i < n) : w.cell? ⟨gO, i.toNat, none⟩ = some (.bool (rdOf false out i)) ∧ w.frozen? ⟨gO, i.toNat, none⟩ = false := Kd.R_celln false h.rO i h0 hi
theorem Mst.putL (h : Mst b0 w m gl gO AL n c1 c2 c3 left out) (i v : Int) : Mst b0 (w.setCell ⟨gl, i.toNat, none⟩ (.int .i64 v)) m gl gO AL n c1 c2 c3 (left.set i.toNat v) out :=
  ⟨blk_far h.blk (p := ⟨gl, i.toNat, none⟩) h.n1 _, Kd.R_putn h.rl i v, Kd.R_far h.rO (p := ⟨gl, i.toNat, none⟩) (fun k hk => by subst hk; exact fun e => h.n3 e.symm) _, h.mb, h.n1, h.n2, h.n3⟩
theorem Mst.putO (h : Mst b0 w m gl gO AL n c1 c2 c3 left out) (i : Int) (v : Bool) : Mst b0 (w.setCell ⟨gO, i.toNat, none⟩ (.bool v)) m gl gO AL n c1 c2 c3 left (out.set i.toNat v) :=
  ⟨blk_far h.blk (p := ⟨gO, i.toNat, none⟩) h.n2 _, Kd.R_far h.rl (p := ⟨gO, i.toNat, none⟩) (fun k hk => by subst hk; exact h.n3) _, Kd.R_putn h.rO i v, h.mb, h.n1, h.n2, h.n3⟩
theorem Mst.kept {W : World} {S : Nat → Prop} (h : Mst b0 w m gl gO AL n c1 c2 c3 left out) (hk : Kept w W S) (h1 : ¬ S m) (h2 : ¬ S gl) (h3 : ¬ S gO) : Mst b0 W m gl gO AL n c1 c2 c3 left out :=
  ⟨blk_kept h.blk hk h1, Kd.R_kept h.rl hk (fun k hk => by subst hk; exact h2), Kd.R_kept h.rO hk (fun k hk => by subst hk; exact h3), h.mb, h.n1, h.n2, h.n3⟩
theorem Mst.below {W : World} (h : Mst b0 w m gl gO AL n c1 c2 c3 left out) (hb : Below w.heap.size w W) : Mst b0 W m gl gO AL n c1 c2 c3 left out := h.kept (S := fun _ => False) (Kept.of_below hb _) id id id
end
/-- The places between two are out. -/
def markF : Nat → List Bool → Int → List Bool
  | 0, out, _ => out
  | d + 1, out, i => markF d (out.set i.toNat true) (i + 1)
def stepL (left : List Int) (i n : Int) : List Int := left.set i.toNat (wrap64 (rd left i - n))
def stepO (left : List Int) (out : List Bool) (i n : Int) : List Bool := out.set i.toNat (rd (stepL left i n) i == 0)
def strongF (left : List Int) (x y : Int) : Bool := if rd left x ≥ 2 then decide (rd left y ≥ 2) else false
def numF (s : Bool) : Int := if s = true then 2 else 1
def pairL (left : List Int) (x y : Int) : List Int := stepL (stepL left x (numF (strongF left x y))) y (numF (strongF left x y))
def pairO (left : List Int) (out : List Bool) (x y : Int) : List Bool :=
  stepO (stepL left x (numF (strongF left x y))) (stepO left (markF (y - (x + 1)).toNat out (x + 1)) x (numF (strongF left x y))) y (numF (strongF left x y))
/-- What the second loop leaves, after k rounds. -/
def restL (x y n : Int) : Nat → List Int → List Int
  | 0, L => stepL (stepL L x n) y n
  | 1, L => stepL L y n
  | _, L => L
def restO (x y n : Int) : Nat → List Int → List Bool → List Bool
  | 0, L, O => stepO (stepL L x n) (stepO L O x n) y n
  | 1, L, O => stepO L O y n
  | _, _, O => O
set_option maxHeartbeats 4000000 in
set_option maxRecDepth 100000 in
theorem pair.calls (b0 m gl gO n c1 c2 c3 : Nat) (AL : Option Addr) (left : List Int) (out : List Bool) (x y : Int) (w : World)
  (hb0 : b0 ≤ w.heap.size) (hs : Mst b0 w m gl gO AL n c1 c2 c3 left out)
  (x0 : 0 ≤ x) (x1 : x < y) (y1 : y < n) (hn : n ≤ 1099511627776) :
    Calls Try.prog 16 #[.pointer (some ⟨m, 0, none⟩), .int .i64 x, .int .i64 y] w fun e w' => e = .returned (.agg #[.int .i64 x, .int .i64 y, .bool (strongF left x y)]) ∧
      Below b0 w w' ∧ Kept w w' (fun k => k = gl ∨ k = gO) ∧ Mst b0 w' m gl gO AL n c1 c2 c3 (pairL left x y) (pairO left out x y) := by
  have hu33 := Try.underlying33
  have hm0 := hs.m0
  have hm1 := hs.m1
  have hm2 := hs.m2
  obtain ⟨hmlt, hllt, holt, hbl, hbo⟩ := hs.lts
  have HS := Aside0.mk hs
  obtain ⟨cx, fx⟩ := hs.cl x x0 (by omega)
  obtain ⟨cy, fy⟩ := hs.cl y (by omega) y1
  have dx1 : decide (x < (n : Int)) = true := decide_eq_true (by omega)
  have dy1 : decide (y < (n : Int)) = true := decide_eq_true y1
  have dx0 : decide (0 ≤ x) = true := decide_eq_true x0
  have dy0 : decide (0 ≤ y) = true := decide_eq_true (by omega)
  clear hs
  by_cases c2' : rd left x ≥ 2
  · have t1 : decide (2 ≤ rd left x) = true := decide_eq_true c2'
    by_cases c3' : rd left y ≥ 2
    · have t2 : decide (2 ≤ rd left y) = true := decide_eq_true c3'

      have es : strongF left x y = true := by unfold strongF; simp [c2', c3']
      have HL : Aside0 (restL x y 2 0 left = pairL left x y) := ⟨by unfold pairL numF restL; rw [es]; rfl⟩
      have HO : Aside0 (restO x y 2 0 left (markF (y - (x + 1)).toNat out (x + 1)) = pairO left out x y) := ⟨by unfold pairO numF restO; rw [es]; rfl⟩
      rw [es]
      clear es
      go_enter Try.func16, Try.ntmps16
      go_wp2
      go_loopw [9] (fun v wr => ∃ (k : Int) (O : List Bool), v = .int .i64 k ∧ x + 1 ≤ k ∧ k ≤ y ∧ Aside0 (markF (y - k).toNat O k = markF (y - (x + 1)).toNat out (x + 1)) ∧ Aside0 (Mst b0 wr m gl gO AL n c1 c2 c3 left O) ∧
          Aside0 (wr.heap[w.heap.size]? = some (.cells #[.int .i64 0, .int .i64 0, .bool false] 33 (0, 0))) ∧ Aside0 (wr.heap[w.heap.size + 1]? = some (.cells #[.int .i64 x, .int .i64 y, .bool true] 33 (0, 0))) ∧
          Aside0 (Below b0 w wr) ∧ Aside0 (Kept w wr (fun k => k = gl ∨ k = gO))) (fun v _ => (y - intOf v).toNat)
      case atStart =>
        refine ⟨x + 1, out, rfl, by omega, by omega, ⟨rfl⟩, ⟨HS.out.below ?_⟩, ⟨?_⟩, ⟨?_⟩, ⟨?_⟩, ⟨Kept.of_below ?_ _⟩⟩
        · exact below_alloc (below_alloc (Below.refl _ _) _) _
        · exact blk_alloc (blk_new _ _) _
        · have h := blk_new (w.alloc (.cells #[.int .i64 0, .int .i64 0, .bool false] 33)) (.cells #[.int .i64 x, .int .i64 y, .bool true] 33 (0, 0))
          simpa using h
        · exact Below.mono (below_alloc (below_alloc (Below.refl _ _) _) _) hb0
        · exact below_alloc (below_alloc (Below.refl _ _) _) _
      case round =>
        clear hm0 hm1 hm2 cx fx cy fy HS
        obtain ⟨k, O, rfl, hk1, hk2, HM, HS, HR, HP, HB, HK⟩ := hrel
        have hm2 := HS.out.m2
        by_cases hlt : k < y
        · obtain ⟨ck, fk⟩ := HS.out.co k (by omega) (by omega)
          have dk1 : decide (k < (n : Int)) = true := decide_eq_true (by omega)
          have dk0 : decide (0 ≤ k) = true := decide_eq_true (by omega)
          have dlt : decide (k < y) = true := decide_eq_true hlt
          have hol := HS.out.lts
          have HS2 := Aside0.mk (HS.out.putO k true)
          have HM2 : Aside0 (markF (y - (k + 1)).toNat (O.set k.toNat true) (k + 1) = markF (y - (x + 1)).toNat out (x + 1)) := ⟨by
            rw [← HM.out]
            have e : (y - k).toNat = (y - (k + 1)).toNat + 1 := by omega
            rw [e, markF]⟩
          go_wp2
          go_roundw
          case rel =>
            refine ⟨k + 1, O.set k.toNat true, by go_num, by omega, by omega, HM2, HS2, ⟨blk_far HR.out (by show w.heap.size ≠ gO; omega) _⟩, ⟨blk_far HP.out (by show w.heap.size + 1 ≠ gO; omega) _⟩, ⟨HB.out.setCell (by show b0 ≤ gO; omega) _⟩, ⟨HK.out.setCell (.inl (.inr rfl)) _⟩⟩
          case measure =>
            simp [intOf]
            omega
        · have hky : k = y := by omega
          subst hky
          have dlt : decide (k < k) = false := decide_eq_false (by omega)
          have hMO : O = markF (k - (x + 1)).toNat out (x + 1) := by
            have := HM.out
            rw [show (k - k).toNat = 0 by omega, markF] at this
            exact this
          rw [← hMO] at HO
          clear hMO HM
          go_wp2
          obtain ⟨wo, rfl⟩ : ∃ wo : World, wo = wr := ⟨_, rfl⟩
          have HQ := Aside0.mk (blk_new wo (.cells #[.int .i64 x, .int .i64 k] 3 (0, 0)))
          have hbn : Below wo.heap.size wo (wo.alloc (.cells #[.int .i64 x, .int .i64 k] 3 (0, 0))) := below_alloc (Below.refl _ _) _
          have hlts := HS.out.lts
          have hRlt := blk_lt HR.out
          have hPlt := blk_lt HP.out
          go_loopw [52] (fun v wr => ∃ (j : Nat) (L : List Int) (O' : List Bool), v = .int .i64 j ∧ j ≤ 2 ∧ Aside0 (restL x k 2 j L = pairL left x k) ∧ Aside0 (restO x k 2 j L O' = pairO left out x k) ∧ Aside0 (Mst b0 wr m gl gO AL n c1 c2 c3 L O') ∧
            Aside0 (wr.heap[w.heap.size]? = some (.cells #[.int .i64 0, .int .i64 0, .bool false] 33 (0, 0))) ∧ Aside0 (wr.heap[w.heap.size + 1]? = some (.cells #[.int .i64 x, .int .i64 k, .bool true] 33 (0, 0))) ∧
            Aside0 (wr.heap[wo.heap.size]? = some (.cells #[.int .i64 x, .int .i64 k] 3 (0, 0))) ∧ Aside0 (Below b0 w wr) ∧ Aside0 (Kept w wr (fun k => k = gl ∨ k = gO))) (fun v _ => 2 - (intOf v).toNat)
          case atStart =>
            exact ⟨0, left, O, rfl, by omega, HL, HO, ⟨HS.out.below hbn⟩, ⟨blk_alloc HR.out _⟩, ⟨blk_alloc HP.out _⟩, HQ, ⟨HB.out.alloc (by omega) _⟩, ⟨HK.out.alloc _⟩⟩
          case round =>
            clear HL HO hm2 HS HR HP HQ HB HK hbn
            obtain ⟨j, L, O', rfl, hj, HL, HO, HS, HR, HP, HQ, HB, HK⟩ := hrel
            have hm1 := HS.out.m1
            have hm2 := HS.out.m2
            have hl2 := HS.out.lts
            have hq0 : wr.cell? ⟨wo.heap.size, 0, none⟩ = some (.int .i64 x) := blk_cell HQ.out 0
            have hq1 : wr.cell? ⟨wo.heap.size, 1, none⟩ = some (.int .i64 k) := blk_cell HQ.out 1
            obtain rfl | rfl | rfl : j = 0 ∨ j = 1 ∨ j = 2 := by omega
            · obtain ⟨ck, fk⟩ := HS.out.cl x (by omega) (by omega)
              have dk1 : decide (x < (n : Int)) = true := decide_eq_true (by omega)
              have dk0 : decide (0 ≤ x) = true := decide_eq_true (by omega)
              go_wp2
              have HS3 := Aside0.mk (HS.out.putL x (wrap64 (rd L x - 2)))
              have HR3 := Aside0.mk (blk_far HR.out (p := ⟨gl, (x).toNat, none⟩) (by show w.heap.size ≠ gl; omega) (.int .i64 (wrap64 (rd L x - 2))))
              have HP3 := Aside0.mk (blk_far HP.out (p := ⟨gl, (x).toNat, none⟩) (by show w.heap.size + 1 ≠ gl; omega) (.int .i64 (wrap64 (rd L x - 2))))
              have HQ3 := Aside0.mk (blk_far HQ.out (p := ⟨gl, (x).toNat, none⟩) (by show wo.heap.size ≠ gl; omega) (.int .i64 (wrap64 (rd L x - 2))))
              have HB3 := Aside0.mk (HB.out.setCell (p := ⟨gl, (x).toNat, none⟩) (by show b0 ≤ gl; omega) (.int .i64 (wrap64 (rd L x - 2))))
              have HK3 := Aside0.mk (HK.out.setCell (p := ⟨gl, (x).toNat, none⟩) (.inl (.inl rfl)) (.int .i64 (wrap64 (rd L x - 2))))
              obtain ⟨W3, hW3⟩ : ∃ W3, W3 = wr.setCell ⟨gl, (x).toNat, none⟩ (.int .i64 (wrap64 (rd L x - 2))) := ⟨_, rfl⟩
              rw [← hW3] at HS3 HR3 HP3 HQ3 HB3 HK3 ⊢
              clear hW3 ck fk hm1 hm2 hq0 hq1 HS HR HP HQ HB HK
              have hm1 := HS3.out.m1
              have hm2 := HS3.out.m2
              obtain ⟨ck, _⟩ := HS3.out.cl x (by omega) (by omega)
              obtain ⟨cok, fk⟩ := HS3.out.co x (by omega) (by omega)
              have hl3 := HS3.out.lts
              go_region
              all_goals go_wp2
              all_goals go_roundw
              case rel =>
                exact ⟨1, L.set (x).toNat (wrap64 (rd L x - 2)), O'.set (x).toNat (rd (L.set (x).toNat (wrap64 (rd L x - 2))) x == 0), rfl, by omega, HL, HO, ⟨(HS3.out.putO x _).below (Below.refl _ _).drew⟩, ⟨blk_far HR3.out (by show w.heap.size ≠ gO; omega) _⟩, ⟨blk_far HP3.out (by show w.heap.size + 1 ≠ gO; omega) _⟩, ⟨blk_far HQ3.out (by show wo.heap.size ≠ gO; omega) _⟩, ⟨(HB3.out.setCell (p := ⟨gO, (x).toNat, none⟩) (by show b0 ≤ gO; omega) _).drew⟩, ⟨(HK3.out.setCell (p := ⟨gO, (x).toNat, none⟩) (.inl (.inr rfl)) _).drew⟩⟩
              case measure =>
                simp [intOf]
            · obtain ⟨ck, fk⟩ := HS.out.cl k (by omega) (by omega)
              have dk1 : decide (k < (n : Int)) = true := decide_eq_true (by omega)
              have dk0 : decide (0 ≤ k) = true := decide_eq_true (by omega)
              go_wp2
              have HS3 := Aside0.mk (HS.out.putL k (wrap64 (rd L k - 2)))
              have HR3 := Aside0.mk (blk_far HR.out (p := ⟨gl, (k).toNat, none⟩) (by show w.heap.size ≠ gl; omega) (.int .i64 (wrap64 (rd L k - 2))))
              have HP3 := Aside0.mk (blk_far HP.out (p := ⟨gl, (k).toNat, none⟩) (by show w.heap.size + 1 ≠ gl; omega) (.int .i64 (wrap64 (rd L k - 2))))
              have HQ3 := Aside0.mk (blk_far HQ.out (p := ⟨gl, (k).toNat, none⟩) (by show wo.heap.size ≠ gl; omega) (.int .i64 (wrap64 (rd L k - 2))))
              have HB3 := Aside0.mk (HB.out.setCell (p := ⟨gl, (k).toNat, none⟩) (by show b0 ≤ gl; omega) (.int .i64 (wrap64 (rd L k - 2))))
              have HK3 := Aside0.mk (HK.out.setCell (p := ⟨gl, (k).toNat, none⟩) (.inl (.inl rfl)) (.int .i64 (wrap64 (rd L k - 2))))
              obtain ⟨W3, hW3⟩ : ∃ W3, W3 = wr.setCell ⟨gl, (k).toNat, none⟩ (.int .i64 (wrap64 (rd L k - 2))) := ⟨_, rfl⟩
              rw [← hW3] at HS3 HR3 HP3 HQ3 HB3 HK3 ⊢
              clear hW3 ck fk hm1 hm2 hq0 hq1 HS HR HP HQ HB HK
              have hm1 := HS3.out.m1
              have hm2 := HS3.out.m2
              obtain ⟨ck, _⟩ := HS3.out.cl k (by omega) (by omega)
              obtain ⟨cok, fk⟩ := HS3.out.co k (by omega) (by omega)
              have hl3 := HS3.out.lts
              go_region
              all_goals go_wp2
              all_goals go_roundw
              case rel =>
                exact ⟨2, L.set (k).toNat (wrap64 (rd L k - 2)), O'.set (k).toNat (rd (L.set (k).toNat (wrap64 (rd L k - 2))) k == 0), rfl, by omega, HL, HO, ⟨(HS3.out.putO k _).below (Below.refl _ _).drew⟩, ⟨blk_far HR3.out (by show w.heap.size ≠ gO; omega) _⟩, ⟨blk_far HP3.out (by show w.heap.size + 1 ≠ gO; omega) _⟩, ⟨blk_far HQ3.out (by show wo.heap.size ≠ gO; omega) _⟩, ⟨(HB3.out.setCell (p := ⟨gO, (k).toNat, none⟩) (by show b0 ≤ gO; omega) _).drew⟩, ⟨(HK3.out.setCell (p := ⟨gO, (k).toNat, none⟩) (.inl (.inr rfl)) _).drew⟩⟩
              case measure =>
                simp [intOf]
            · have hr0 : wr.cell? ⟨w.heap.size, 0, none⟩ = some (.int .i64 0) := blk_cell HR.out 0
              have hr1 : wr.cell? ⟨w.heap.size, 1, none⟩ = some (.int .i64 0) := blk_cell HR.out 1
              have hr2 : wr.cell? ⟨w.heap.size, 2, none⟩ = some (.bool false) := blk_cell HR.out 2
              have hrf0 := blk_frozen HR.out 0
              have hrf1 := blk_frozen HR.out 1
              have hrf2 := blk_frozen HR.out 2
              have hp0 : wr.cell? ⟨w.heap.size + 1, 0, none⟩ = some (.int .i64 x) := blk_cell HP.out 0
              have hp1 : wr.cell? ⟨w.heap.size + 1, 1, none⟩ = some (.int .i64 k) := blk_cell HP.out 1
              have hp2 : wr.cell? ⟨w.heap.size + 1, 2, none⟩ = some (.bool true) := blk_cell HP.out 2
              go_wp2
              have hS := HS.out
              rw [show L = pairL left x k from HL.out, show O' = pairO left out x k from HO.out] at hS
              refine bodyPost_ret (results_cell_row rfl _ _ w.heap.size 33 #[.int .i64 x, .int .i64 k, .bool true] (0, 0) _ rfl (blk_put (cs := #[.int .i64 x, .int .i64 k, .bool false]) (blk_put (cs := #[.int .i64 x, .int .i64 0, .bool false]) (blk_put HR.out 0 _ rfl) 1 _ rfl) 2 _ rfl) Try.underlying33 rfl (by kernel_rfl)) rfl ⟨rfl, ((HB.out.setCell (p := ⟨w.heap.size, 0, none⟩) hb0 _).setCell (p := ⟨w.heap.size, 1, none⟩) hb0 _).setCell (p := ⟨w.heap.size, 2, none⟩) hb0 _, ((HK.out.setCell (p := ⟨w.heap.size, 0, none⟩) (.inr (Nat.le_refl _)) _).setCell (p := ⟨w.heap.size, 1, none⟩) (.inr (Nat.le_refl _)) _).setCell (p := ⟨w.heap.size, 2, none⟩) (.inr (Nat.le_refl _)) _, ?_⟩
              exact hS.kept (S := fun k => k = w.heap.size) ((((Kept.refl _ (fun k => k = w.heap.size)).setCell (p := ⟨w.heap.size, 0, none⟩) (.inl rfl) _).setCell (p := ⟨w.heap.size, 1, none⟩) (.inl rfl) _).setCell (p := ⟨w.heap.size, 2, none⟩) (.inl rfl) _) (by omega) (by omega) (by omega)

    · have t2 : decide (2 ≤ rd left y) = false := decide_eq_false c3'

      have es : strongF left x y = false := by unfold strongF; simp [c2', c3']
      have HL : Aside0 (restL x y 1 0 left = pairL left x y) := ⟨by unfold pairL numF restL; rw [es]; rfl⟩
      have HO : Aside0 (restO x y 1 0 left (markF (y - (x + 1)).toNat out (x + 1)) = pairO left out x y) := ⟨by unfold pairO numF restO; rw [es]; rfl⟩
      rw [es]
      clear es
      go_enter Try.func16, Try.ntmps16
      go_wp2
      go_loopw [9] (fun v wr => ∃ (k : Int) (O : List Bool), v = .int .i64 k ∧ x + 1 ≤ k ∧ k ≤ y ∧ Aside0 (markF (y - k).toNat O k = markF (y - (x + 1)).toNat out (x + 1)) ∧ Aside0 (Mst b0 wr m gl gO AL n c1 c2 c3 left O) ∧
          Aside0 (wr.heap[w.heap.size]? = some (.cells #[.int .i64 0, .int .i64 0, .bool false] 33 (0, 0))) ∧ Aside0 (wr.heap[w.heap.size + 1]? = some (.cells #[.int .i64 x, .int .i64 y, .bool false] 33 (0, 0))) ∧
          Aside0 (Below b0 w wr) ∧ Aside0 (Kept w wr (fun k => k = gl ∨ k = gO))) (fun v _ => (y - intOf v).toNat)
      case atStart =>
        refine ⟨x + 1, out, rfl, by omega, by omega, ⟨rfl⟩, ⟨HS.out.below ?_⟩, ⟨?_⟩, ⟨?_⟩, ⟨?_⟩, ⟨Kept.of_below ?_ _⟩⟩
        · exact below_alloc (below_alloc (Below.refl _ _) _) _
        · exact blk_alloc (blk_new _ _) _
        · have h := blk_new (w.alloc (.cells #[.int .i64 0, .int .i64 0, .bool false] 33)) (.cells #[.int .i64 x, .int .i64 y, .bool false] 33 (0, 0))
          simpa using h
        · exact Below.mono (below_alloc (below_alloc (Below.refl _ _) _) _) hb0
        · exact below_alloc (below_alloc (Below.refl _ _) _) _
      case round =>
        clear hm0 hm1 hm2 cx fx cy fy HS
        obtain ⟨k, O, rfl, hk1, hk2, HM, HS, HR, HP, HB, HK⟩ := hrel
        have hm2 := HS.out.m2
        by_cases hlt : k < y
        · obtain ⟨ck, fk⟩ := HS.out.co k (by omega) (by omega)
          have dk1 : decide (k < (n : Int)) = true := decide_eq_true (by omega)
          have dk0 : decide (0 ≤ k) = true := decide_eq_true (by omega)
          have dlt : decide (k < y) = true := decide_eq_true hlt
          have hol := HS.out.lts
          have HS2 := Aside0.mk (HS.out.putO k true)
          have HM2 : Aside0 (markF (y - (k + 1)).toNat (O.set k.toNat true) (k + 1) = markF (y - (x + 1)).toNat out (x + 1)) := ⟨by
            rw [← HM.out]
            have e : (y - k).toNat = (y - (k + 1)).toNat + 1 := by omega
            rw [e, markF]⟩
          go_wp2
          go_roundw
          case rel =>
            refine ⟨k + 1, O.set k.toNat true, by go_num, by omega, by omega, HM2, HS2, ⟨blk_far HR.out (by show w.heap.size ≠ gO; omega) _⟩, ⟨blk_far HP.out (by show w.heap.size + 1 ≠ gO; omega) _⟩, ⟨HB.out.setCell (by show b0 ≤ gO; omega) _⟩, ⟨HK.out.setCell (.inl (.inr rfl)) _⟩⟩
          case measure =>
            simp [intOf]
            omega
        · have hky : k = y := by omega
          subst hky
          have dlt : decide (k < k) = false := decide_eq_false (by omega)
          have hMO : O = markF (k - (x + 1)).toNat out (x + 1) := by
            have := HM.out
            rw [show (k - k).toNat = 0 by omega, markF] at this
            exact this
          rw [← hMO] at HO
          clear hMO HM
          go_wp2
          obtain ⟨wo, rfl⟩ : ∃ wo : World, wo = wr := ⟨_, rfl⟩
          have HQ := Aside0.mk (blk_new wo (.cells #[.int .i64 x, .int .i64 k] 3 (0, 0)))
          have hbn : Below wo.heap.size wo (wo.alloc (.cells #[.int .i64 x, .int .i64 k] 3 (0, 0))) := below_alloc (Below.refl _ _) _
          have hlts := HS.out.lts
          have hRlt := blk_lt HR.out
          have hPlt := blk_lt HP.out
          go_loopw [52] (fun v wr => ∃ (j : Nat) (L : List Int) (O' : List Bool), v = .int .i64 j ∧ j ≤ 2 ∧ Aside0 (restL x k 1 j L = pairL left x k) ∧ Aside0 (restO x k 1 j L O' = pairO left out x k) ∧ Aside0 (Mst b0 wr m gl gO AL n c1 c2 c3 L O') ∧
            Aside0 (wr.heap[w.heap.size]? = some (.cells #[.int .i64 0, .int .i64 0, .bool false] 33 (0, 0))) ∧ Aside0 (wr.heap[w.heap.size + 1]? = some (.cells #[.int .i64 x, .int .i64 k, .bool false] 33 (0, 0))) ∧
            Aside0 (wr.heap[wo.heap.size]? = some (.cells #[.int .i64 x, .int .i64 k] 3 (0, 0))) ∧ Aside0 (Below b0 w wr) ∧ Aside0 (Kept w wr (fun k => k = gl ∨ k = gO))) (fun v _ => 2 - (intOf v).toNat)
          case atStart =>
            exact ⟨0, left, O, rfl, by omega, HL, HO, ⟨HS.out.below hbn⟩, ⟨blk_alloc HR.out _⟩, ⟨blk_alloc HP.out _⟩, HQ, ⟨HB.out.alloc (by omega) _⟩, ⟨HK.out.alloc _⟩⟩
          case round =>
            clear HL HO hm2 HS HR HP HQ HB HK hbn
            obtain ⟨j, L, O', rfl, hj, HL, HO, HS, HR, HP, HQ, HB, HK⟩ := hrel
            have hm1 := HS.out.m1
            have hm2 := HS.out.m2
            have hl2 := HS.out.lts
            have hq0 : wr.cell? ⟨wo.heap.size, 0, none⟩ = some (.int .i64 x) := blk_cell HQ.out 0
            have hq1 : wr.cell? ⟨wo.heap.size, 1, none⟩ = some (.int .i64 k) := blk_cell HQ.out 1
            obtain rfl | rfl | rfl : j = 0 ∨ j = 1 ∨ j = 2 := by omega
            · obtain ⟨ck, fk⟩ := HS.out.cl x (by omega) (by omega)
              have dk1 : decide (x < (n : Int)) = true := decide_eq_true (by omega)
              have dk0 : decide (0 ≤ x) = true := decide_eq_true (by omega)
              go_wp2
              have HS3 := Aside0.mk (HS.out.putL x (wrap64 (rd L x - 1)))
              have HR3 := Aside0.mk (blk_far HR.out (p := ⟨gl, (x).toNat, none⟩) (by show w.heap.size ≠ gl; omega) (.int .i64 (wrap64 (rd L x - 1))))
              have HP3 := Aside0.mk (blk_far HP.out (p := ⟨gl, (x).toNat, none⟩) (by show w.heap.size + 1 ≠ gl; omega) (.int .i64 (wrap64 (rd L x - 1))))
              have HQ3 := Aside0.mk (blk_far HQ.out (p := ⟨gl, (x).toNat, none⟩) (by show wo.heap.size ≠ gl; omega) (.int .i64 (wrap64 (rd L x - 1))))
              have HB3 := Aside0.mk (HB.out.setCell (p := ⟨gl, (x).toNat, none⟩) (by show b0 ≤ gl; omega) (.int .i64 (wrap64 (rd L x - 1))))
              have HK3 := Aside0.mk (HK.out.setCell (p := ⟨gl, (x).toNat, none⟩) (.inl (.inl rfl)) (.int .i64 (wrap64 (rd L x - 1))))
              obtain ⟨W3, hW3⟩ : ∃ W3, W3 = wr.setCell ⟨gl, (x).toNat, none⟩ (.int .i64 (wrap64 (rd L x - 1))) := ⟨_, rfl⟩
              rw [← hW3] at HS3 HR3 HP3 HQ3 HB3 HK3 ⊢
              clear hW3 ck fk hm1 hm2 hq0 hq1 HS HR HP HQ HB HK
              have hm1 := HS3.out.m1
              have hm2 := HS3.out.m2
              obtain ⟨ck, _⟩ := HS3.out.cl x (by omega) (by omega)
              obtain ⟨cok, fk⟩ := HS3.out.co x (by omega) (by omega)
              have hl3 := HS3.out.lts
              go_region
              all_goals go_wp2
              all_goals go_roundw
              case rel =>
                exact ⟨1, L.set (x).toNat (wrap64 (rd L x - 1)), O'.set (x).toNat (rd (L.set (x).toNat (wrap64 (rd L x - 1))) x == 0), rfl, by omega, HL, HO, ⟨(HS3.out.putO x _).below (Below.refl _ _).drew⟩, ⟨blk_far HR3.out (by show w.heap.size ≠ gO; omega) _⟩, ⟨blk_far HP3.out (by show w.heap.size + 1 ≠ gO; omega) _⟩, ⟨blk_far HQ3.out (by show wo.heap.size ≠ gO; omega) _⟩, ⟨(HB3.out.setCell (p := ⟨gO, (x).toNat, none⟩) (by show b0 ≤ gO; omega) _).drew⟩, ⟨(HK3.out.setCell (p := ⟨gO, (x).toNat, none⟩) (.inl (.inr rfl)) _).drew⟩⟩
              case measure =>
                simp [intOf]
            · obtain ⟨ck, fk⟩ := HS.out.cl k (by omega) (by omega)
              have dk1 : decide (k < (n : Int)) = true := decide_eq_true (by omega)
              have dk0 : decide (0 ≤ k) = true := decide_eq_true (by omega)
              go_wp2
              have HS3 := Aside0.mk (HS.out.putL k (wrap64 (rd L k - 1)))
              have HR3 := Aside0.mk (blk_far HR.out (p := ⟨gl, (k).toNat, none⟩) (by show w.heap.size ≠ gl; omega) (.int .i64 (wrap64 (rd L k - 1))))
              have HP3 := Aside0.mk (blk_far HP.out (p := ⟨gl, (k).toNat, none⟩) (by show w.heap.size + 1 ≠ gl; omega) (.int .i64 (wrap64 (rd L k - 1))))
              have HQ3 := Aside0.mk (blk_far HQ.out (p := ⟨gl, (k).toNat, none⟩) (by show wo.heap.size ≠ gl; omega) (.int .i64 (wrap64 (rd L k - 1))))
              have HB3 := Aside0.mk (HB.out.setCell (p := ⟨gl, (k).toNat, none⟩) (by show b0 ≤ gl; omega) (.int .i64 (wrap64 (rd L k - 1))))
              have HK3 := Aside0.mk (HK.out.setCell (p := ⟨gl, (k).toNat, none⟩) (.inl (.inl rfl)) (.int .i64 (wrap64 (rd L k - 1))))
              obtain ⟨W3, hW3⟩ : ∃ W3, W3 = wr.setCell ⟨gl, (k).toNat, none⟩ (.int .i64 (wrap64 (rd L k - 1))) := ⟨_, rfl⟩
              rw [← hW3] at HS3 HR3 HP3 HQ3 HB3 HK3 ⊢
              clear hW3 ck fk hm1 hm2 hq0 hq1 HS HR HP HQ HB HK
              have hm1 := HS3.out.m1
              have hm2 := HS3.out.m2
              obtain ⟨ck, _⟩ := HS3.out.cl k (by omega) (by omega)
              obtain ⟨cok, fk⟩ := HS3.out.co k (by omega) (by omega)
              have hl3 := HS3.out.lts
              go_region
              all_goals go_wp2
              all_goals go_roundw
              case rel =>
                exact ⟨2, L.set (k).toNat (wrap64 (rd L k - 1)), O'.set (k).toNat (rd (L.set (k).toNat (wrap64 (rd L k - 1))) k == 0), rfl, by omega, HL, HO, ⟨(HS3.out.putO k _).below (Below.refl _ _).drew⟩, ⟨blk_far HR3.out (by show w.heap.size ≠ gO; omega) _⟩, ⟨blk_far HP3.out (by show w.heap.size + 1 ≠ gO; omega) _⟩, ⟨blk_far HQ3.out (by show wo.heap.size ≠ gO; omega) _⟩, ⟨(HB3.out.setCell (p := ⟨gO, (k).toNat, none⟩) (by show b0 ≤ gO; omega) _).drew⟩, ⟨(HK3.out.setCell (p := ⟨gO, (k).toNat, none⟩) (.inl (.inr rfl)) _).drew⟩⟩
              case measure =>
                simp [intOf]
            · have hr0 : wr.cell? ⟨w.heap.size, 0, none⟩ = some (.int .i64 0) := blk_cell HR.out 0
              have hr1 : wr.cell? ⟨w.heap.size, 1, none⟩ = some (.int .i64 0) := blk_cell HR.out 1
              have hr2 : wr.cell? ⟨w.heap.size, 2, none⟩ = some (.bool false) := blk_cell HR.out 2
              have hrf0 := blk_frozen HR.out 0
              have hrf1 := blk_frozen HR.out 1
              have hrf2 := blk_frozen HR.out 2
              have hp0 : wr.cell? ⟨w.heap.size + 1, 0, none⟩ = some (.int .i64 x) := blk_cell HP.out 0
              have hp1 : wr.cell? ⟨w.heap.size + 1, 1, none⟩ = some (.int .i64 k) := blk_cell HP.out 1
              have hp2 : wr.cell? ⟨w.heap.size + 1, 2, none⟩ = some (.bool false) := blk_cell HP.out 2
              go_wp2
              have hS := HS.out
              rw [show L = pairL left x k from HL.out, show O' = pairO left out x k from HO.out] at hS
              refine bodyPost_ret (results_cell_row rfl _ _ w.heap.size 33 #[.int .i64 x, .int .i64 k, .bool false] (0, 0) _ rfl (blk_put (cs := #[.int .i64 x, .int .i64 k, .bool false]) (blk_put (cs := #[.int .i64 x, .int .i64 0, .bool false]) (blk_put HR.out 0 _ rfl) 1 _ rfl) 2 _ rfl) Try.underlying33 rfl (by kernel_rfl)) rfl ⟨rfl, ((HB.out.setCell (p := ⟨w.heap.size, 0, none⟩) hb0 _).setCell (p := ⟨w.heap.size, 1, none⟩) hb0 _).setCell (p := ⟨w.heap.size, 2, none⟩) hb0 _, ((HK.out.setCell (p := ⟨w.heap.size, 0, none⟩) (.inr (Nat.le_refl _)) _).setCell (p := ⟨w.heap.size, 1, none⟩) (.inr (Nat.le_refl _)) _).setCell (p := ⟨w.heap.size, 2, none⟩) (.inr (Nat.le_refl _)) _, ?_⟩
              exact hS.kept (S := fun k => k = w.heap.size) ((((Kept.refl _ (fun k => k = w.heap.size)).setCell (p := ⟨w.heap.size, 0, none⟩) (.inl rfl) _).setCell (p := ⟨w.heap.size, 1, none⟩) (.inl rfl) _).setCell (p := ⟨w.heap.size, 2, none⟩) (.inl rfl) _) (by omega) (by omega) (by omega)

  · have t1 : decide (2 ≤ rd left x) = false := decide_eq_false c2'

    have es : strongF left x y = false := by unfold strongF; simp [c2']
    have HL : Aside0 (restL x y 1 0 left = pairL left x y) := ⟨by unfold pairL numF restL; rw [es]; rfl⟩
    have HO : Aside0 (restO x y 1 0 left (markF (y - (x + 1)).toNat out (x + 1)) = pairO left out x y) := ⟨by unfold pairO numF restO; rw [es]; rfl⟩
    rw [es]
    clear es
    go_enter Try.func16, Try.ntmps16
    go_wp2
    go_loopw [9] (fun v wr => ∃ (k : Int) (O : List Bool), v = .int .i64 k ∧ x + 1 ≤ k ∧ k ≤ y ∧ Aside0 (markF (y - k).toNat O k = markF (y - (x + 1)).toNat out (x + 1)) ∧ Aside0 (Mst b0 wr m gl gO AL n c1 c2 c3 left O) ∧
        Aside0 (wr.heap[w.heap.size]? = some (.cells #[.int .i64 0, .int .i64 0, .bool false] 33 (0, 0))) ∧ Aside0 (wr.heap[w.heap.size + 1]? = some (.cells #[.int .i64 x, .int .i64 y, .bool false] 33 (0, 0))) ∧
        Aside0 (Below b0 w wr) ∧ Aside0 (Kept w wr (fun k => k = gl ∨ k = gO))) (fun v _ => (y - intOf v).toNat)
    case atStart =>
      refine ⟨x + 1, out, rfl, by omega, by omega, ⟨rfl⟩, ⟨HS.out.below ?_⟩, ⟨?_⟩, ⟨?_⟩, ⟨?_⟩, ⟨Kept.of_below ?_ _⟩⟩
      · exact below_alloc (below_alloc (Below.refl _ _) _) _
      · exact blk_alloc (blk_new _ _) _
      · have h := blk_new (w.alloc (.cells #[.int .i64 0, .int .i64 0, .bool false] 33)) (.cells #[.int .i64 x, .int .i64 y, .bool false] 33 (0, 0))
        simpa using h
      · exact Below.mono (below_alloc (below_alloc (Below.refl _ _) _) _) hb0
      · exact below_alloc (below_alloc (Below.refl _ _) _) _
    case round =>
      clear hm0 hm1 hm2 cx fx cy fy HS
      obtain ⟨k, O, rfl, hk1, hk2, HM, HS, HR, HP, HB, HK⟩ := hrel
      have hm2 := HS.out.m2
      by_cases hlt : k < y
      · obtain ⟨ck, fk⟩ := HS.out.co k (by omega) (by omega)
        have dk1 : decide (k < (n : Int)) = true := decide_eq_true (by omega)
        have dk0 : decide (0 ≤ k) = true := decide_eq_true (by omega)
        have dlt : decide (k < y) = true := decide_eq_true hlt
        have hol := HS.out.lts
        have HS2 := Aside0.mk (HS.out.putO k true)
        have HM2 : Aside0 (markF (y - (k + 1)).toNat (O.set k.toNat true) (k + 1) = markF (y - (x + 1)).toNat out (x + 1)) := ⟨by
          rw [← HM.out]
          have e : (y - k).toNat = (y - (k + 1)).toNat + 1 := by omega
          rw [e, markF]⟩
        go_wp2
        go_roundw
        case rel =>
          refine ⟨k + 1, O.set k.toNat true, by go_num, by omega, by omega, HM2, HS2, ⟨blk_far HR.out (by show w.heap.size ≠ gO; omega) _⟩, ⟨blk_far HP.out (by show w.heap.size + 1 ≠ gO; omega) _⟩, ⟨HB.out.setCell (by show b0 ≤ gO; omega) _⟩, ⟨HK.out.setCell (.inl (.inr rfl)) _⟩⟩
        case measure =>
          simp [intOf]
          omega
      · have hky : k = y := by omega
        subst hky
        have dlt : decide (k < k) = false := decide_eq_false (by omega)
        have hMO : O = markF (k - (x + 1)).toNat out (x + 1) := by
          have := HM.out
          rw [show (k - k).toNat = 0 by omega, markF] at this
          exact this
        rw [← hMO] at HO
        clear hMO HM
        go_wp2
        obtain ⟨wo, rfl⟩ : ∃ wo : World, wo = wr := ⟨_, rfl⟩
        have HQ := Aside0.mk (blk_new wo (.cells #[.int .i64 x, .int .i64 k] 3 (0, 0)))
        have hbn : Below wo.heap.size wo (wo.alloc (.cells #[.int .i64 x, .int .i64 k] 3 (0, 0))) := below_alloc (Below.refl _ _) _
        have hlts := HS.out.lts
        have hRlt := blk_lt HR.out
        have hPlt := blk_lt HP.out
        go_loopw [52] (fun v wr => ∃ (j : Nat) (L : List Int) (O' : List Bool), v = .int .i64 j ∧ j ≤ 2 ∧ Aside0 (restL x k 1 j L = pairL left x k) ∧ Aside0 (restO x k 1 j L O' = pairO left out x k) ∧ Aside0 (Mst b0 wr m gl gO AL n c1 c2 c3 L O') ∧
          Aside0 (wr.heap[w.heap.size]? = some (.cells #[.int .i64 0, .int .i64 0, .bool false] 33 (0, 0))) ∧ Aside0 (wr.heap[w.heap.size + 1]? = some (.cells #[.int .i64 x, .int .i64 k, .bool false] 33 (0, 0))) ∧
          Aside0 (wr.heap[wo.heap.size]? = some (.cells #[.int .i64 x, .int .i64 k] 3 (0, 0))) ∧ Aside0 (Below b0 w wr) ∧ Aside0 (Kept w wr (fun k => k = gl ∨ k = gO))) (fun v _ => 2 - (intOf v).toNat)
        case atStart =>
          exact ⟨0, left, O, rfl, by omega, HL, HO, ⟨HS.out.below hbn⟩, ⟨blk_alloc HR.out _⟩, ⟨blk_alloc HP.out _⟩, HQ, ⟨HB.out.alloc (by omega) _⟩, ⟨HK.out.alloc _⟩⟩
        case round =>
          clear HL HO hm2 HS HR HP HQ HB HK hbn
          obtain ⟨j, L, O', rfl, hj, HL, HO, HS, HR, HP, HQ, HB, HK⟩ := hrel
          have hm1 := HS.out.m1
          have hm2 := HS.out.m2
          have hl2 := HS.out.lts
          have hq0 : wr.cell? ⟨wo.heap.size, 0, none⟩ = some (.int .i64 x) := blk_cell HQ.out 0
          have hq1 : wr.cell? ⟨wo.heap.size, 1, none⟩ = some (.int .i64 k) := blk_cell HQ.out 1
          obtain rfl | rfl | rfl : j = 0 ∨ j = 1 ∨ j = 2 := by omega
          · obtain ⟨ck, fk⟩ := HS.out.cl x (by omega) (by omega)
            have dk1 : decide (x < (n : Int)) = true := decide_eq_true (by omega)
            have dk0 : decide (0 ≤ x) = true := decide_eq_true (by omega)
            go_wp2
            have HS3 := Aside0.mk (HS.out.putL x (wrap64 (rd L x - 1)))
            have HR3 := Aside0.mk (blk_far HR.out (p := ⟨gl, (x).toNat, none⟩) (by show w.heap.size ≠ gl; omega) (.int .i64 (wrap64 (rd L x - 1))))
            have HP3 := Aside0.mk (blk_far HP.out (p := ⟨gl, (x).toNat, none⟩) (by show w.heap.size + 1 ≠ gl; omega) (.int .i64 (wrap64 (rd L x - 1))))
            have HQ3 := Aside0.mk (blk_far HQ.out (p := ⟨gl, (x).toNat, none⟩) (by show wo.heap.size ≠ gl; omega) (.int .i64 (wrap64 (rd L x - 1))))
            have HB3 := Aside0.mk (HB.out.setCell (p := ⟨gl, (x).toNat, none⟩) (by show b0 ≤ gl; omega) (.int .i64 (wrap64 (rd L x - 1))))
            have HK3 := Aside0.mk (HK.out.setCell (p := ⟨gl, (x).toNat, none⟩) (.inl (.inl rfl)) (.int .i64 (wrap64 (rd L x - 1))))
            obtain ⟨W3, hW3⟩ : ∃ W3, W3 = wr.setCell ⟨gl, (x).toNat, none⟩ (.int .i64 (wrap64 (rd L x - 1))) := ⟨_, rfl⟩
            rw [← hW3] at HS3 HR3 HP3 HQ3 HB3 HK3 ⊢
            clear hW3 ck fk hm1 hm2 hq0 hq1 HS HR HP HQ HB HK
            have hm1 := HS3.out.m1
            have hm2 := HS3.out.m2
            obtain ⟨ck, _⟩ := HS3.out.cl x (by omega) (by omega)
            obtain ⟨cok, fk⟩ := HS3.out.co x (by omega) (by omega)
            have hl3 := HS3.out.lts
            go_region
            all_goals go_wp2
            all_goals go_roundw
            case rel =>
              exact ⟨1, L.set (x).toNat (wrap64 (rd L x - 1)), O'.set (x).toNat (rd (L.set (x).toNat (wrap64 (rd L x - 1))) x == 0), rfl, by omega, HL, HO, ⟨(HS3.out.putO x _).below (Below.refl _ _).drew⟩, ⟨blk_far HR3.out (by show w.heap.size ≠ gO; omega) _⟩, ⟨blk_far HP3.out (by show w.heap.size + 1 ≠ gO; omega) _⟩, ⟨blk_far HQ3.out (by show wo.heap.size ≠ gO; omega) _⟩, ⟨(HB3.out.setCell (p := ⟨gO, (x).toNat, none⟩) (by show b0 ≤ gO; omega) _).drew⟩, ⟨(HK3.out.setCell (p := ⟨gO, (x).toNat, none⟩) (.inl (.inr rfl)) _).drew⟩⟩
            case measure =>
              simp [intOf]
          · obtain ⟨ck, fk⟩ := HS.out.cl k (by omega) (by omega)
            have dk1 : decide (k < (n : Int)) = true := decide_eq_true (by omega)
            have dk0 : decide (0 ≤ k) = true := decide_eq_true (by omega)
            go_wp2
            have HS3 := Aside0.mk (HS.out.putL k (wrap64 (rd L k - 1)))
            have HR3 := Aside0.mk (blk_far HR.out (p := ⟨gl, (k).toNat, none⟩) (by show w.heap.size ≠ gl; omega) (.int .i64 (wrap64 (rd L k - 1))))
            have HP3 := Aside0.mk (blk_far HP.out (p := ⟨gl, (k).toNat, none⟩) (by show w.heap.size + 1 ≠ gl; omega) (.int .i64 (wrap64 (rd L k - 1))))
            have HQ3 := Aside0.mk (blk_far HQ.out (p := ⟨gl, (k).toNat, none⟩) (by show wo.heap.size ≠ gl; omega) (.int .i64 (wrap64 (rd L k - 1))))
            have HB3 := Aside0.mk (HB.out.setCell (p := ⟨gl, (k).toNat, none⟩) (by show b0 ≤ gl; omega) (.int .i64 (wrap64 (rd L k - 1))))
            have HK3 := Aside0.mk (HK.out.setCell (p := ⟨gl, (k).toNat, none⟩) (.inl (.inl rfl)) (.int .i64 (wrap64 (rd L k - 1))))
            obtain ⟨W3, hW3⟩ : ∃ W3, W3 = wr.setCell ⟨gl, (k).toNat, none⟩ (.int .i64 (wrap64 (rd L k - 1))) := ⟨_, rfl⟩
            rw [← hW3] at HS3 HR3 HP3 HQ3 HB3 HK3 ⊢
            clear hW3 ck fk hm1 hm2 hq0 hq1 HS HR HP HQ HB HK
            have hm1 := HS3.out.m1
            have hm2 := HS3.out.m2
            obtain ⟨ck, _⟩ := HS3.out.cl k (by omega) (by omega)
            obtain ⟨cok, fk⟩ := HS3.out.co k (by omega) (by omega)
            have hl3 := HS3.out.lts
            go_region
            all_goals go_wp2
            all_goals go_roundw
            case rel =>
              exact ⟨2, L.set (k).toNat (wrap64 (rd L k - 1)), O'.set (k).toNat (rd (L.set (k).toNat (wrap64 (rd L k - 1))) k == 0), rfl, by omega, HL, HO, ⟨(HS3.out.putO k _).below (Below.refl _ _).drew⟩, ⟨blk_far HR3.out (by show w.heap.size ≠ gO; omega) _⟩, ⟨blk_far HP3.out (by show w.heap.size + 1 ≠ gO; omega) _⟩, ⟨blk_far HQ3.out (by show wo.heap.size ≠ gO; omega) _⟩, ⟨(HB3.out.setCell (p := ⟨gO, (k).toNat, none⟩) (by show b0 ≤ gO; omega) _).drew⟩, ⟨(HK3.out.setCell (p := ⟨gO, (k).toNat, none⟩) (.inl (.inr rfl)) _).drew⟩⟩
            case measure =>
              simp [intOf]
          · have hr0 : wr.cell? ⟨w.heap.size, 0, none⟩ = some (.int .i64 0) := blk_cell HR.out 0
            have hr1 : wr.cell? ⟨w.heap.size, 1, none⟩ = some (.int .i64 0) := blk_cell HR.out 1
            have hr2 : wr.cell? ⟨w.heap.size, 2, none⟩ = some (.bool false) := blk_cell HR.out 2
            have hrf0 := blk_frozen HR.out 0
            have hrf1 := blk_frozen HR.out 1
            have hrf2 := blk_frozen HR.out 2
            have hp0 : wr.cell? ⟨w.heap.size + 1, 0, none⟩ = some (.int .i64 x) := blk_cell HP.out 0
            have hp1 : wr.cell? ⟨w.heap.size + 1, 1, none⟩ = some (.int .i64 k) := blk_cell HP.out 1
            have hp2 : wr.cell? ⟨w.heap.size + 1, 2, none⟩ = some (.bool false) := blk_cell HP.out 2
            go_wp2
            have hS := HS.out
            rw [show L = pairL left x k from HL.out, show O' = pairO left out x k from HO.out] at hS
            refine bodyPost_ret (results_cell_row rfl _ _ w.heap.size 33 #[.int .i64 x, .int .i64 k, .bool false] (0, 0) _ rfl (blk_put (cs := #[.int .i64 x, .int .i64 k, .bool false]) (blk_put (cs := #[.int .i64 x, .int .i64 0, .bool false]) (blk_put HR.out 0 _ rfl) 1 _ rfl) 2 _ rfl) Try.underlying33 rfl (by kernel_rfl)) rfl ⟨rfl, ((HB.out.setCell (p := ⟨w.heap.size, 0, none⟩) hb0 _).setCell (p := ⟨w.heap.size, 1, none⟩) hb0 _).setCell (p := ⟨w.heap.size, 2, none⟩) hb0 _, ((HK.out.setCell (p := ⟨w.heap.size, 0, none⟩) (.inr (Nat.le_refl _)) _).setCell (p := ⟨w.heap.size, 1, none⟩) (.inr (Nat.le_refl _)) _).setCell (p := ⟨w.heap.size, 2, none⟩) (.inr (Nat.le_refl _)) _, ?_⟩
            exact hS.kept (S := fun k => k = w.heap.size) ((((Kept.refl _ (fun k => k = w.heap.size)).setCell (p := ⟨w.heap.size, 0, none⟩) (.inl rfl) _).setCell (p := ⟨w.heap.size, 1, none⟩) (.inl rfl) _).setCell (p := ⟨w.heap.size, 2, none⟩) (.inl rfl) _) (by omega) (by omega) (by omega)

def delim_Match.init : Nat → List S27 → List Int → List Bool → Nat → List Int × List Bool
  | 0, _, L, O, _ => (L, O)
  | d + 1, l, L, O, i => delim_Match.init d l (L.set i (mx 0 (rd_T27 l i).f1)) (O.set i (decide ((rd_T27 l i).f1 ≤ 0))) (i + 1)
/-- One more than the place of the last one ahead of m that fits; 0: none. -/
def delim_Match.find (l : List S27) (L : List Int) (O : List Bool) (tt : Nat) : Nat → Nat
  | 0 => 0
  | m + 1 => if fitsF l L O (m : Int) (tt : Int) = true then m + 1 else delim_Match.find l L O tt m
def delim_Match.while_ : Nat → List S27 → List Int → List Bool → List S33 → Nat → Option (List Int × List Bool × List S33)
  | 0, _, _, _, _, _ => none
  | k + 1, l, L, O, ps, tt =>
    if rdOf false O (tt : Int) = true then some (L, O, ps)
    else if (rd_T27 l (tt : Int)).f3 = true then
      (if rd L (tt : Int) > 0 then
        (if delim_Match.find l L O tt tt = 0 then some (L, O.set tt (!(rd_T27 l (tt : Int)).f2), ps)
         else if ps.length < 1000000000 then delim_Match.while_ k l (pairL L (((delim_Match.find l L O tt tt : Nat) : Int) - 1) (tt : Int)) (pairO L O (((delim_Match.find l L O tt tt : Nat) : Int) - 1) (tt : Int)) (ps ++ [⟨((delim_Match.find l L O tt tt : Nat) : Int) - 1, (tt : Int), strongF L (((delim_Match.find l L O tt tt : Nat) : Int) - 1) (tt : Int)⟩]) tt
         else none)
       else some (L, O, ps))
    else some (L, O, ps)
def delim_Match.all (k : Nat) : Nat → List S27 → List Int → List Bool → List S33 → Nat → Option (List S33)
  | 0, _, _, _, ps, _ => some ps
  | d + 1, l, L, O, ps, tt => (delim_Match.while_ k l L O ps tt).bind fun t => delim_Match.all k d l t.1 t.2.1 t.2.2 (tt + 1)
def delim_Match.f (k : Nat) (l0 : List S27) : Option (List S33) :=
  if l0.length ≤ 1099511627776 then
    delim_Match.all k l0.length l0 (delim_Match.init l0.length l0 (List.replicate l0.length 0) (List.replicate l0.length false) 0).1 (delim_Match.init l0.length l0 (List.replicate l0.length 0) (List.replicate l0.length false) 0).2 [] 0
  else none
theorem delim_Match.mono_w : ∀ k l L O ps tt, LeO (delim_Match.while_ k l L O ps tt) (delim_Match.while_ (k + 1) l L O ps tt)
  | 0 => fun _ _ _ _ _ r h => by simp [delim_Match.while_] at h
  | k + 1 => by
    intro l L O ps tt
    have ih := delim_Match.mono_w k
    rw [delim_Match.while_, delim_Match.while_]
    repeat' first
      | (with_reducible exact ih _ _ _ _ _)
      | (with_reducible exact LeO.refl _)
      | (with_reducible refine LeO.ite ?_ ?_)
theorem delim_Match.mono_a (k : Nat) : ∀ d l L O ps tt, LeO (delim_Match.all k d l L O ps tt) (delim_Match.all (k + 1) d l L O ps tt)
  | 0 => fun _ _ _ _ _ => LeO.refl _
  | d + 1 => by
    intro l L O ps tt
    rw [delim_Match.all, delim_Match.all]
    exact LeO.bind (delim_Match.mono_w k _ _ _ _ _) (fun _ => delim_Match.mono_a k d _ _ _ _ _)
theorem delim_Match.mono : ∀ a0 k, LeO (delim_Match.f k a0) (delim_Match.f (k + 1) a0) := by
  intro a0 k
  unfold delim_Match.f
  split
  · exact delim_Match.mono_a k _ _ _ _ _ _
  · exact LeO.refl _
theorem infoB4 : (Try.prog.info? 4).map (fun i => (i.zero, i.size, i.bytes)) = some (some (.bool false), 1, 1) := by kernel_rfl
theorem infoB33 : (Try.prog.info? 33).map (fun i => (i.zero, i.size, i.bytes)) = some (some (.agg #[.int .i64 0, .int .i64 0, .bool false]), 3, 24) := by kernel_rfl
theorem Mst.grown {b0 m gl gO n c1 c2 c3 : Nat} {w : World} {AL : Option Addr} {left : List Int} {out : List Bool} (h : Mst b0 w m gl gO AL n c1 c2 c3 left out) {W : World} {row : Option Nat} (hg : w.grownBy W row) (hr : ∀ q, row = some q → q ≠ m ∧ q ≠ gl ∧ q ≠ gO) : Mst b0 W m gl gO AL n c1 c2 c3 left out :=
  h.kept (S := fun q => row = some q) ⟨hg.size, fun i hi hn => hg.block i hi (fun e => hn e.symm)⟩ (fun e => (hr _ e).1 rfl) (fun e => (hr _ e).2.1 rfl) (fun e => (hr _ e).2.2 rfl)
theorem made_row {α : Type} (d : Kd α) (z0 : α) (z : Value) (e : Nat) (W : World) (base n : Nat) (hb : base ≤ W.heap.size) (hn : n ≤ 1099511627776) (hz : z.cells.size = d.sz) (hs : 0 < d.sz) (h1 : d.sz ≤ 1) (h0 : ∀ W' b ok, d.M W' b ok z0 z.cells.toList) :
    d.R e (W.alloc (.cells (madeCells z.cells n) e)) base (fun k => k = W.heap.size) (.slice (some ⟨W.heap.size, 0, none⟩) n n) (List.replicate n z0) := by
  have hsz : d.sz = 1 := by omega
  have ho := World.ownsRow_lit (base := base) (e := e) (size := d.sz) W (madeCells z.cells (n * d.sz)) n hb (by unfold maxLen; omega) (by rw [size_madeCells])
  have e1 : n * d.sz = n := by rw [hsz]; omega
  refine ⟨fun k hk => ?_, (madeCells z.cells (n * d.sz)).toList, ?_, ?_⟩
  · have : W.heap.size = k := by simpa [Value.ownBlock] using hk
    exact this.symm
  · rw [List.length_replicate]
    rw [e1] at ho ⊢
    exact ho
  · exact Kd.reps_made hz hs (h0 _ _ _) n
set_option maxHeartbeats 8000000 in
set_option maxRecDepth 100000 in
theorem delim_Match.calls (k : Nat) (A0 : Option Addr) (c0 : Nat) (l0 : List S27) (r : List S33) (w : World) (hr0 : Kd.C k27 w A0 l0.length l0) (hc0 : l0.length ≤ c0) (h : delim_Match.f k l0 = some r) :
    Calls Try.prog 10 #[.slice A0 l0.length c0] w fun e w' => ∃ v0_ : Value, e = .returned (v0_) ∧ Kd.R k33 33 w' w.heap.size (fun _ => True) v0_ r ∧ Below w.heap.size w w' := by
  unfold delim_Match.f at h
  by_cases hz : l0.length ≤ 1099511627776
  case neg =>
    rw [if_neg hz] at h
    exact absurd h (by simp)
  rw [if_pos hz] at h
  have H := Aside0.mk h
  have HR0 := Aside0.mk hr0
  have HC0 := Aside0.mk hc0
  clear h hr0 hc0
  obtain ⟨n, hn⟩ : ∃ n, n = l0.length := ⟨_, rfl⟩
  rw [← hn] at H HR0 HC0 hz ⊢
  have HN := Aside0.mk hn
  clear hn
  obtain ⟨CL, hCL⟩ : ∃ C, C = madeCells (Value.int .i64 0).cells n := ⟨_, rfl⟩
  obtain ⟨CO, hCO⟩ : ∃ C, C = madeCells (Value.bool false).cells n := ⟨_, rfl⟩
  have hmkL : ∀ W : World, (Instr.makeSlice 36 (.int .i64 (n : Int)) (.int .i64 (n : Int))).run Try.prog W = .ok (.slice (some ⟨W.heap.size, 0, none⟩) n n) (W.alloc (.cells CL 3)) := fun W => by
    obtain ⟨i0, hi, hz0⟩ := Option.map_eq_some_iff.1 info3
    simp only [Prod.mk.injEq] at hz0
    obtain ⟨hz0, hz1, hz2⟩ := hz0
    have h := run_make (P := Try.prog) W 36 3 i0 (.int .i64 0) Try.underlying36 hi hz0 .i64 .i64 (n : Int) (n : Int) (by omega) (by omega) (by rw [hz2]; omega) (by omega)
    rw [hz1, Nat.mul_one, Int.toNat_natCast] at h
    rw [hCL]
    exact h
  have hmkO : ∀ W : World, (Instr.makeSlice 43 (.int .i64 (n : Int)) (.int .i64 (n : Int))).run Try.prog W = .ok (.slice (some ⟨W.heap.size, 0, none⟩) n n) (W.alloc (.cells CO 4)) := fun W => by
    obtain ⟨i0, hi, hz0⟩ := Option.map_eq_some_iff.1 infoB4
    simp only [Prod.mk.injEq] at hz0
    obtain ⟨hz0, hz1, hz2⟩ := hz0
    have h := run_make (P := Try.prog) W 43 4 i0 (.bool false) Try.underlying43 hi hz0 .i64 .i64 (n : Int) (n : Int) (by omega) (by omega) (by rw [hz2]; omega) (by omega)
    rw [hz1, Nat.mul_one, Int.toNat_natCast] at h
    rw [hCO]
    exact h
  have HCL := Aside0.mk hCL
  have HCO := Aside0.mk hCO
  clear hCL hCO
  go_enter Try.func10, Try.ntmps10
  go_wp2
  go_region
  all_goals clear hmkL hmkO
  all_goals go_wp2
  · have hW : ∃ W1, W1 = (((w.alloc (Obj.cells CL 3)).alloc (Obj.cells CO 4)).alloc (Obj.cells #[Value.slice A0 n c0, Value.slice (some ⟨w.heap.size, 0, none⟩) n n, Value.slice (some ⟨w.heap.size + 1, 0, none⟩) n n] 45)).drew := ⟨_, rfl⟩
    obtain ⟨W1, hW1⟩ := hW
    have hB : Below w.heap.size w W1 := by rw [hW1]; exact (by repeat (first | (with_reducible first | exact Below.refl _ _ | apply below_alloc | apply pw_below_drewN | apply below_drew1) | exact Below.refl _ _))
    obtain ⟨m, hm⟩ : ∃ m, m = w.heap.size + 1 + 1 := ⟨_, rfl⟩
    obtain ⟨gl, hgl⟩ : ∃ m, m = w.heap.size := ⟨_, rfl⟩
    obtain ⟨gO, hgO⟩ : ∃ m, m = w.heap.size + 1 := ⟨_, rfl⟩
    have hM : Mst w.heap.size W1 m gl gO A0 n c0 n n (List.replicate n 0) (List.replicate n false) := by
      subst hm hgl hgO
      rw [hW1]
      have hL := made_row (Kd.int .i64) 0 (.int .i64 0) 3 (w) w.heap.size n (by simp) hz rfl (by decide) (by decide) (fun _ _ _ => rfl)
      have hO := made_row Kd.bool false (.bool false) 4 (w.alloc (.cells CL 3)) w.heap.size n (by simp) hz rfl (by decide) (by decide) (fun _ _ _ => rfl)
      rw [← HCL.out] at hL
      rw [← HCO.out] at hO
      have hb2 := blk_new ((w.alloc (.cells CL 3)).alloc (.cells CO 4)) (.cells #[Value.slice A0 n c0, Value.slice (some ⟨w.heap.size, 0, none⟩) n n, Value.slice (some ⟨w.heap.size + 1, 0, none⟩) n n] 45 (0, 0))
      rw [show ((w.alloc (.cells CL 3)).alloc (.cells CO 4)).heap.size = w.heap.size + 2 from by simp] at hb2
      refine ⟨hb2, ?_, ?_, by omega, by omega, by omega, by omega⟩
      · exact Kd.R_below (by simpa using hL) (by repeat (first | (with_reducible first | exact Below.refl _ _ | apply below_alloc | apply pw_below_drewN | apply below_drew1) | exact Below.refl _ _))
      · exact Kd.R_below (by simpa using hO) (by repeat (first | (with_reducible first | exact Below.refl _ _ | apply below_alloc | apply pw_below_drewN | apply below_drew1) | exact Below.refl _ _))
    rw [← hW1]
    clear hW1
    rw [show (⟨w.heap.size + 1 + 1, 0, none⟩ : Addr) = ⟨m, 0, none⟩ from by rw [hm], show (⟨w.heap.size, 0, none⟩ : Addr) = ⟨gl, 0, none⟩ from by rw [hgl], show (⟨w.heap.size + 1, 0, none⟩ : Addr) = ⟨gO, 0, none⟩ from by rw [hgO]]
    clear hm hgl hgO
    have hH : Aside0 (delim_Match.all k n l0 (delim_Match.init n l0 (List.replicate n 0) (List.replicate n false) 0).1 (delim_Match.init n l0 (List.replicate n 0) (List.replicate n false) 0).2 [] 0 = some r) := H
    obtain ⟨fin, hfin⟩ : ∃ f, f = delim_Match.init n l0 (List.replicate n 0) (List.replicate n false) 0 := ⟨_, rfl⟩
    rw [← hfin] at hH
    have HF := Aside0.mk hfin.symm
    have HM := Aside0.mk hM
    have HB := Aside0.mk hB
    clear hfin hM hB H
    go_loopw [20] (fun v wr => ∃ (z : Int) (d : Nat) (L : List Int) (O : List Bool), v = .int .i64 z ∧ 0 ≤ z ∧ z + d = n ∧ Aside0 (delim_Match.init d l0 L O z.toNat = fin) ∧ Aside0 (Mst w.heap.size wr m gl gO A0 n c0 n n L O) ∧ Aside0 (Below w.heap.size w wr)) (fun v _ => n - (intOf v).toNat)
    case atStart => exact ⟨0, n, _, _, rfl, by omega, by omega, HF, HM, HB⟩
    case round =>
      clear HM HB HF
      obtain ⟨z, d, L, O, rfl, hz0, hzd, HI, HM, HB⟩ := hrel
      by_cases hlt : z < n
      · obtain ⟨d, rfl⟩ : ∃ d', d = d' + 1 := ⟨d - 1, by omega⟩
        have HI2 : Aside0 (delim_Match.init d l0 (L.set z.toNat (mx 0 (rd_T27 l0 z).f1)) (O.set z.toNat (decide ((rd_T27 l0 z).f1 ≤ 0))) (z + 1).toNat = fin) := ⟨by
          have h := HI.out
          rw [delim_Match.init, Int.toNat_of_nonneg hz0] at h
          rw [show (z + 1).toNat = z.toNat + 1 by omega]
          exact h⟩
        have dlt : decide (z < (n : Int)) = true := decide_eq_true hlt
        have d0 : decide (0 ≤ z) = true := decide_eq_true hz0
        obtain ⟨ad, hA, a0, a1, a2, a3⟩ := at_T27 (Kd.C_below HR0.out HB.out) z hz0 hlt
        subst hA
        have q0 := World.block_lt_of_cell? wr _ a0
        clear HI
        by_cases hp : 0 < (rd_T27 l0 z).f1
        · have hv : mx 0 (rd_T27 l0 z).f1 = (rd_T27 l0 z).f1 := by unfold mx; rw [if_pos hp]
          rw [hv] at HI2
          clear hv
          go_wp2
          have hM2 := Aside0.mk (HM.out.below (below_alloc (Below.refl _ _) (.cells #[.int .u8 (rd_T27 l0 z).f0, .int .i64 (rd_T27 l0 z).f1, .bool (rd_T27 l0 z).f2, .bool (rd_T27 l0 z).f3] 27)))
          have hB2 := Aside0.mk (HB.out.alloc (HB.out.size) (.cells #[.int .u8 (rd_T27 l0 z).f0, .int .i64 (rd_T27 l0 z).f1, .bool (rd_T27 l0 z).f2, .bool (rd_T27 l0 z).f3] 27))
          have hc1 := Aside0.mk (blk_new wr (.cells #[.int .u8 (rd_T27 l0 z).f0, .int .i64 (rd_T27 l0 z).f1, .bool (rd_T27 l0 z).f2, .bool (rd_T27 l0 z).f3] 27 (0, 0)))
          have hlt1 := HM.out.lts
          obtain ⟨W2, hW2⟩ : ∃ W2, W2 = wr.alloc (.cells #[.int .u8 (rd_T27 l0 z).f0, .int .i64 (rd_T27 l0 z).f1, .bool (rd_T27 l0 z).f2, .bool (rd_T27 l0 z).f3] 27) := ⟨_, rfl⟩
          rw [← hW2] at hM2 hB2 hc1 ⊢
          clear hW2 HM HB a0 a1 a2 a3 q0
          have g1 := hM2.out.m1
          have g2 : W2.cell? ⟨wr.heap.size, 1, none⟩ = some (.int .i64 (rd_T27 l0 z).f1) := blk_cell hc1.out 1
          obtain ⟨g3, g4⟩ := hM2.out.cl z hz0 hlt
          go_region
          all_goals go_wp2
          have hM3 := Aside0.mk ((hM2.out.putL z ((rd_T27 l0 z).f1)).below (Below.refl _ _).drew)
          have hB3 := Aside0.mk (hB2.out.setCell (p := ⟨gl, z.toNat, none⟩) (by show w.heap.size ≤ gl; have := hM2.out.lts; omega) (.int .i64 (rd_T27 l0 z).f1)).drew
          have hc3 := Aside0.mk (blk_drew (blk_far hc1.out (p := ⟨gl, z.toNat, none⟩) (by show wr.heap.size ≠ gl; omega) (.int .i64 (rd_T27 l0 z).f1)))
          obtain ⟨W3, hW3⟩ : ∃ W3, W3 = (W2.setCell ⟨gl, z.toNat, none⟩ (.int .i64 (rd_T27 l0 z).f1)).drew := ⟨_, rfl⟩
          rw [← hW3] at hM3 hB3 hc3 ⊢
          clear hW3 hM2 hB2 hc1 g1 g2 g3 g4
          have g1 := hM3.out.m2
          have g2 : W3.cell? ⟨wr.heap.size, 1, none⟩ = some (.int .i64 (rd_T27 l0 z).f1) := blk_cell hc3.out 1
          obtain ⟨g3, g4⟩ := hM3.out.co z hz0 hlt
          go_region
          all_goals go_wp2
          go_roundw
          case rel =>
            exact ⟨z + 1, d, _, _, rfl, by omega, by omega, HI2, ⟨(hM3.out.putO z _).below (Below.refl _ _).drew⟩, ⟨(hB3.out.setCell (p := ⟨gO, z.toNat, none⟩) (by show w.heap.size ≤ gO; have := hM3.out.lts; omega) _).drew⟩⟩
          case measure =>
            simp [intOf]
            omega

        · have hv : mx 0 (rd_T27 l0 z).f1 = 0 := by unfold mx; rw [if_neg hp]
          rw [hv, show decide ((rd_T27 l0 z).f1 ≤ 0) = true from decide_eq_true (by omega)] at HI2
          clear hv
          go_wp2
          have hM2 := Aside0.mk (HM.out.below (below_alloc (Below.refl _ _) (.cells #[.int .u8 (rd_T27 l0 z).f0, .int .i64 (rd_T27 l0 z).f1, .bool (rd_T27 l0 z).f2, .bool (rd_T27 l0 z).f3] 27)))
          have hB2 := Aside0.mk (HB.out.alloc (HB.out.size) (.cells #[.int .u8 (rd_T27 l0 z).f0, .int .i64 (rd_T27 l0 z).f1, .bool (rd_T27 l0 z).f2, .bool (rd_T27 l0 z).f3] 27))
          have hc1 := Aside0.mk (blk_new wr (.cells #[.int .u8 (rd_T27 l0 z).f0, .int .i64 (rd_T27 l0 z).f1, .bool (rd_T27 l0 z).f2, .bool (rd_T27 l0 z).f3] 27 (0, 0)))
          have hlt1 := HM.out.lts
          obtain ⟨W2, hW2⟩ : ∃ W2, W2 = wr.alloc (.cells #[.int .u8 (rd_T27 l0 z).f0, .int .i64 (rd_T27 l0 z).f1, .bool (rd_T27 l0 z).f2, .bool (rd_T27 l0 z).f3] 27) := ⟨_, rfl⟩
          rw [← hW2] at hM2 hB2 hc1 ⊢
          clear hW2 HM HB a0 a1 a2 a3 q0
          have g1 := hM2.out.m1
          have g2 : W2.cell? ⟨wr.heap.size, 1, none⟩ = some (.int .i64 (rd_T27 l0 z).f1) := blk_cell hc1.out 1
          obtain ⟨g3, g4⟩ := hM2.out.cl z hz0 hlt
          go_region
          all_goals go_wp2
          have hM3 := Aside0.mk ((hM2.out.putL z (0)).below (Below.refl _ _).drew)
          have hB3 := Aside0.mk (hB2.out.setCell (p := ⟨gl, z.toNat, none⟩) (by show w.heap.size ≤ gl; have := hM2.out.lts; omega) (.int .i64 0)).drew
          have hc3 := Aside0.mk (blk_drew (blk_far hc1.out (p := ⟨gl, z.toNat, none⟩) (by show wr.heap.size ≠ gl; omega) (.int .i64 0)))
          obtain ⟨W3, hW3⟩ : ∃ W3, W3 = (W2.setCell ⟨gl, z.toNat, none⟩ (.int .i64 0)).drew := ⟨_, rfl⟩
          rw [← hW3] at hM3 hB3 hc3 ⊢
          clear hW3 hM2 hB2 hc1 g1 g2 g3 g4
          have g1 := hM3.out.m2
          have g2 : W3.cell? ⟨wr.heap.size, 1, none⟩ = some (.int .i64 (rd_T27 l0 z).f1) := blk_cell hc3.out 1
          obtain ⟨g3, g4⟩ := hM3.out.co z hz0 hlt
          go_region
          all_goals go_wp2
          go_roundw
          case rel =>
            exact ⟨z + 1, d, _, _, rfl, by omega, by omega, HI2, ⟨(hM3.out.putO z _).below (Below.refl _ _).drew⟩, ⟨(hB3.out.setCell (p := ⟨gO, z.toNat, none⟩) (by show w.heap.size ≤ gO; have := hM3.out.lts; omega) _).drew⟩⟩
          case measure =>
            simp [intOf]
            omega
      · have hzn : z = n := by omega
        obtain rfl : d = 0 := by omega
        have hfin : (L, O) = fin := by
          have h := HI.out
          rw [delim_Match.init] at h
          exact h
        rw [← hfin] at hH
        clear hfin HI
        have dlt : decide (z < (n : Int)) = false := decide_eq_false hlt
        clear hzn hlt hz0 hzd
        obtain ⟨wo, rfl⟩ : ∃ wo : World, wo = wr := ⟨_, rfl⟩
        go_wp2
        have HMs := Aside0.mk HM.out
        go_loopw [46, 6] (fun v v6 wr => ∃ (z : Int) (d : Nat) (L : List Int) (O : List Bool) (ps : List S33), v = .int .i64 z ∧ 0 ≤ z ∧ z + d = n ∧ Aside0 (delim_Match.all k d l0 L O ps z.toNat = some r) ∧ Aside0 (Mst w.heap.size wr m gl gO A0 n c0 n n L O) ∧
          Aside0 (Kd.R k33 33 wr w.heap.size (fun q => q ≠ m ∧ q ≠ gl ∧ q ≠ gO) v6 ps) ∧ Aside0 (Below w.heap.size w wr)) (fun v _ _ => n - (intOf v).toNat)
        case atStart => exact ⟨0, n, L, O, [], rfl, by omega, by omega, hH, HM, ⟨Kd.R_nil _ _ _ _ _⟩, HB⟩
        case round =>
          clear HMs HM HB hH
          obtain ⟨z, d, L, O, ps, rfl, hz0, hzd, HT, HM, HP, HB⟩ := hrel
          by_cases hlt : z < n
          · obtain ⟨d, rfl⟩ : ∃ d', d = d' + 1 := ⟨d - 1, by omega⟩
            have hT := HT.out
            rw [delim_Match.all] at hT
            obtain ⟨t, hw0, ha⟩ := Option.bind_eq_some_iff.mp hT
            have HA : Aside0 (delim_Match.all k d l0 t.1 t.2.1 t.2.2 (z + 1).toNat = some r) := ⟨by rw [show (z + 1).toNat = z.toNat + 1 by omega]; exact ha⟩
            have HW := Aside0.mk hw0
            clear hT HT hw0 ha
            have dlt : decide (z < (n : Int)) = true := decide_eq_true hlt
            have d0 : decide (0 ≤ z) = true := decide_eq_true hz0
            obtain ⟨wo, rfl⟩ : ∃ wo : World, wo = wr := ⟨_, rfl⟩
            go_wp2
            go_loopg [6] k (fun kq v6 wr => ∃ (L : List Int) (O : List Bool) (ps : List S33) (V6 : Value), V6 = v6 ∧ Aside0 (delim_Match.while_ kq l0 L O ps z.toNat = some t) ∧ Aside0 (Mst w.heap.size wr m gl gO A0 n c0 n n L O) ∧
              Aside0 (Kd.R k33 33 wr w.heap.size (fun q => q ≠ m ∧ q ≠ gl ∧ q ≠ gO) v6 ps) ∧ Aside0 (Below w.heap.size w wr))
            case atStart => exact ⟨L, O, ps, _, rfl, HW, HM, HP, HB⟩
            case round =>
              clear HW HM HP HB
              obtain ⟨L, O, ps, V6, rfl, HW, HM, HP, HB⟩ := hrel
              cases gk with
              | zero => exact absurd HW.out (by simp [delim_Match.while_])
              | succ k1 =>
                have hW := HW.out
                rw [delim_Match.while_, Int.toNat_of_nonneg hz0] at hW
                clear HW
                obtain ⟨ad, hA, a0, a1, a2, a3⟩ := at_T27 (Kd.C_below HR0.out HB.out) z hz0 hlt
                subst hA
                have g1 := HM.out.m1
                have g2 := HM.out.m2
                obtain ⟨g3, g4⟩ := HM.out.co z hz0 hlt
                obtain ⟨g5, g6⟩ := HM.out.cl z hz0 hlt
                by_cases c1 : rdOf false O z = true
                · rw [if_pos c1] at hW
                  obtain rfl := Option.some.inj hW
                  clear hW
                  go_wp2
                  go_roundw
                  case rel => exact ⟨z + 1, d, L, O, ps, rfl, by omega, by omega, HA, HM, HP, HB⟩
                  case measure =>
                    simp [intOf]
                    omega
                · rw [if_neg c1] at hW
                  have c1' : rdOf false O z = false := by simpa using c1
                  clear c1
                  by_cases c2 : (rd_T27 l0 z).f3 = true
                  · rw [if_pos c2] at hW
                    by_cases c3 : rd L z > 0
                    · rw [if_pos c3] at hW
                      have c3' : decide (0 < rd L z) = true := decide_eq_true c3
                      have HW := Aside0.mk hW
                      clear hW c3
                      obtain ⟨w2, rfl⟩ : ∃ wo : World, wo = wr := ⟨_, rfl⟩
                      go_wp2
                      clear g1 g2 g3 g4 g5 g6 a0 a1 a2 a3 c1' c2 c3'
                      go_loopw [8] (fun v wr => ∃ (y : Int), v = .int .i64 y ∧ -1 ≤ y ∧ y < z ∧ Aside0 (delim_Match.find l0 L O z.toNat (y + 1).toNat = delim_Match.find l0 L O z.toNat z.toNat) ∧ Aside0 (Mst w.heap.size wr m gl gO (some ad) n c0 n n L O) ∧
                        Aside0 (Kd.R k33 33 wr w.heap.size (fun q => q ≠ m ∧ q ≠ gl ∧ q ≠ gO) V6 ps) ∧ Aside0 (Below w.heap.size w wr)) (fun v _ => (intOf v + 1).toNat)
                      case atStart => exact ⟨z - 1, rfl, by omega, by omega, ⟨by rw [show (z - 1 + 1).toNat = z.toNat by omega]⟩, HM, HP, HB⟩
                      case round =>
                        clear HM HP HB
                        obtain ⟨y, rfl, hy0, hy1, HFd, HM, HP, HB⟩ := hrel
                        by_cases hy : 0 ≤ y
                        · have dy : decide (0 ≤ y) = true := decide_eq_true hy
                          have dy2 : decide (y < 0) = false := decide_eq_false (by omega)
                          obtain ⟨g5, _⟩ := HM.out.cl y hy (by omega)
                          obtain ⟨g3, _⟩ := HM.out.co y hy (by omega)
                          have hfd := HFd.out
                          rw [show (y + 1).toNat = y.toNat + 1 by omega, delim_Match.find, Int.toNat_of_nonneg hy, Int.toNat_of_nonneg hz0] at hfd
                          clear HFd
                          have HF := Aside0.mk (fits.calls m gl gO c0 n n (some ad) l0 L O y z wr (by rw [← HN.out]; exact HM.out.m0) (by rw [← HN.out]; exact HM.out.m1) (by rw [← HN.out]; exact HM.out.m2) (by rw [← HN.out]; exact Kd.C_below HR0.out HB.out) g5 g3 hy (by rw [← HN.out]; omega) hz0 (by rw [← HN.out]; omega))
                          by_cases cf : fitsF l0 L O y z = true
                          · rw [if_pos cf] at hfd
                            have hf1 : ((delim_Match.find l0 L O z.toNat z.toNat : Nat) : Int) - 1 = y := by rw [← hfd]; omega
                            have hf0 : ¬ delim_Match.find l0 L O z.toNat z.toNat = 0 := by rw [← hfd]; omega
                            have hW := HW.out
                            rw [if_neg hf0, hf1] at hW
                            clear hf0 hf1 hfd HW g5 g3
                            by_cases hpl : ps.length < 1000000000
                            · rw [if_pos hpl] at hW
                              have HW := Aside0.mk hW
                              clear hW
                              rw [cf] at HF
                              clear cf
                              have hs0 := HB.out.size
                              go_wp2_with (first | ((with_reducible refine gate_callee (f := 15) rfl ?_); refine gate_guard (by rfl) ?_; dsimp only; refine goesL_ (some 82) rfl rfl Try.func15 (by kernel_rfl) rfl #[.pointer (some ⟨m, 0, none⟩), .int .i64 y, .int .i64 z] rfl (by (try simp only [List.map_toArray, List.map_cons, List.map_nil]); first | done | rfl) ?_; refine HF.out.mono ?_; rintro e w' ⟨rfl, hb⟩; have hs1 := hb.size; have HM2 := Aside0.mk (HM.out.below hb); have HP2 := Aside0.mk (Kd.R_below HP.out hb); have HB2 := Aside0.mk (HB.out.trans (hb.mono HB.out.size)); clear hb; refine ⟨_, rfl, ?_⟩) | (go_at_call 16; refine (pair.calls w.heap.size m gl gO n c0 n n (some ad) L O y z _ (by omega) HM2.out hy hy1 hlt hz).mono ?_; rintro e w'' ⟨rfl, hb, hk, hm⟩; have HM3 := Aside0.mk hm; have HP3 := Aside0.mk (Kd.R_kept HP2.out hk (fun q hq hs => hs.elim hq.2.1 hq.2.2)); have HB3 := Aside0.mk (HB2.out.trans hb); clear hb hk hm) | (at_builtin; refine Kd.R_append k33 (w0 := w) w.heap.size rfl (.tmp 101) (.tmp 106) 28 33 (.agg #[.int .i64 0, .int .i64 0, .bool false]) 24 rfl Try.underlying28 infoB33 rfl (by decide) (by decide) _ ps (⟨y, z, strongF L y z⟩ : S33) [.int .i64 y, .int .i64 z, .bool (strongF L y z)] (fun q => q ≠ m ∧ q ≠ gl ∧ q ≠ gO) (fun _ => False) rfl rfl ?aP (fun _ hk => hk.elim) ?aF ?aO ?aB ?aS ?aL ?_; (case aP => exact k33_mkM _ _ _ _); (case aB => exact HB3.out); (case aF => exact fun q hq => by have := HM3.out.lts; omega); (case aO => exact HP3.out); (case aS => exact HB3.out.size); (case aL => omega); intro v1 w1 ho hb hg hat; have HP4 := Aside0.mk ho; have HB4 := Aside0.mk hb; have HM4 := Aside0.mk (HM3.out.grown hg (HP3.out.1)); clear ho hb hg hat))
                              go_roundg k1
                              case rel => exact ⟨pairL L y z, pairO L O y z, ps ++ [⟨y, z, strongF L y z⟩], _, rfl, HW, HM4, HP4, HB4⟩
                              case measure => omega
                            · rw [if_neg hpl] at hW
                              exact absurd hW (by simp)
                          · rw [if_neg cf] at hfd
                            have cf' : fitsF l0 L O y z = false := by simpa using cf
                            have HFd := Aside0.mk hfd
                            rw [cf'] at HF
                            clear cf cf' hfd g5 g3
                            have hs0 := HB.out.size
                            go_wp2_with (first | ((with_reducible refine gate_callee (f := 15) rfl ?_); refine gate_guard (by rfl) ?_; dsimp only; refine goesL_ (some 82) rfl rfl Try.func15 (by kernel_rfl) rfl #[.pointer (some ⟨m, 0, none⟩), .int .i64 y, .int .i64 z] rfl (by (try simp only [List.map_toArray, List.map_cons, List.map_nil]); first | done | rfl) ?_; refine HF.out.mono ?_; rintro e w' ⟨rfl, hb⟩; have hs1 := hb.size; have HM2 := Aside0.mk (HM.out.below hb); have HP2 := Aside0.mk (Kd.R_below HP.out hb); have HB2 := Aside0.mk (HB.out.trans (hb.mono HB.out.size)); clear hb; refine ⟨_, rfl, ?_⟩))
                            go_roundw
                            case rel => exact ⟨y - 1, rfl, by omega, by omega, ⟨by rw [show (y - 1 + 1).toNat = y.toNat by omega]; exact HFd.out⟩, HM2, HP2, HB2⟩
                            case measure =>
                              simp [intOf]
                              omega
                        · obtain rfl : y = -1 := by omega
                          have hfd := HFd.out
                          rw [show ((-1 : Int) + 1).toNat = 0 from rfl, delim_Match.find] at hfd
                          have hW := HW.out
                          rw [if_pos hfd.symm] at hW
                          obtain rfl := Option.some.inj hW
                          clear hW HW hfd HFd hy0 hy1 hy
                          obtain ⟨ad2, hA2, a0, a1, a2, a3⟩ := at_T27 (Kd.C_below HR0.out HB.out) z hz0 hlt
                          cases hA2
                          have g2 := HM.out.m2
                          obtain ⟨g3, g4⟩ := HM.out.co z hz0 hlt
                          go_wp2
                          go_region
                          all_goals go_wp2
                          go_roundw
                          case rel => exact ⟨z + 1, d, L, _, ps, rfl, by omega, by omega, HA, ⟨(HM.out.putO z _).below (Below.refl _ _).drew⟩, ⟨Kd.R_below (Kd.R_far HP.out (p := ⟨gO, z.toNat, none⟩) (fun q hq => hq.2.2) _) (Below.refl _ _).drew⟩, ⟨(HB.out.setCell (p := ⟨gO, z.toNat, none⟩) (by show w.heap.size ≤ gO; have := HM.out.lts; omega) _).drew⟩⟩
                          case measure =>
                            simp [intOf]
                            omega
                    · rw [if_neg c3] at hW
                      have c3' : decide (0 < rd L z) = false := decide_eq_false c3
                      obtain rfl := Option.some.inj hW
                      clear hW c3
                      go_wp2
                      go_roundw
                      case rel => exact ⟨z + 1, d, L, O, ps, rfl, by omega, by omega, HA, HM, HP, HB⟩
                      case measure =>
                        simp [intOf]
                        omega
                  · rw [if_neg c2] at hW
                    have c2' : (rd_T27 l0 z).f3 = false := by simpa using c2
                    obtain rfl := Option.some.inj hW
                    clear hW c2
                    go_wp2
                    go_roundw
                    case rel => exact ⟨z + 1, d, L, O, ps, rfl, by omega, by omega, HA, HM, HP, HB⟩
                    case measure =>
                      simp [intOf]
                      omega
          · obtain rfl : d = 0 := by omega
            have hT := HT.out
            rw [delim_Match.all] at hT
            obtain rfl := Option.some.inj hT
            have dlt : decide (z < (n : Int)) = false := decide_eq_false hlt
            clear hT HT
            go_wp2
            go_ret
            exact ⟨_, rfl, Kd.R_mono HP.out (fun _ _ => trivial), HB.out⟩

  · have hW : ∃ W1, W1 = (((w.alloc (Obj.cells CO 4)).alloc (Obj.cells CL 3)).alloc (Obj.cells #[Value.slice A0 n c0, Value.slice (some ⟨w.heap.size + 1, 0, none⟩) n n, Value.slice (some ⟨w.heap.size, 0, none⟩) n n] 45)).drew := ⟨_, rfl⟩
    obtain ⟨W1, hW1⟩ := hW
    have hB : Below w.heap.size w W1 := by rw [hW1]; exact (by repeat (first | (with_reducible first | exact Below.refl _ _ | apply below_alloc | apply pw_below_drewN | apply below_drew1) | exact Below.refl _ _))
    obtain ⟨m, hm⟩ : ∃ m, m = w.heap.size + 1 + 1 := ⟨_, rfl⟩
    obtain ⟨gl, hgl⟩ : ∃ m, m = w.heap.size + 1 := ⟨_, rfl⟩
    obtain ⟨gO, hgO⟩ : ∃ m, m = w.heap.size := ⟨_, rfl⟩
    have hM : Mst w.heap.size W1 m gl gO A0 n c0 n n (List.replicate n 0) (List.replicate n false) := by
      subst hm hgl hgO
      rw [hW1]
      have hL := made_row (Kd.int .i64) 0 (.int .i64 0) 3 (w.alloc (.cells CO 4)) w.heap.size n (by simp) hz rfl (by decide) (by decide) (fun _ _ _ => rfl)
      have hO := made_row Kd.bool false (.bool false) 4 (w) w.heap.size n (by simp) hz rfl (by decide) (by decide) (fun _ _ _ => rfl)
      rw [← HCL.out] at hL
      rw [← HCO.out] at hO
      have hb2 := blk_new ((w.alloc (.cells CO 4)).alloc (.cells CL 3)) (.cells #[Value.slice A0 n c0, Value.slice (some ⟨w.heap.size + 1, 0, none⟩) n n, Value.slice (some ⟨w.heap.size, 0, none⟩) n n] 45 (0, 0))
      rw [show ((w.alloc (.cells CO 4)).alloc (.cells CL 3)).heap.size = w.heap.size + 2 from by simp] at hb2
      refine ⟨hb2, ?_, ?_, by omega, by omega, by omega, by omega⟩
      · exact Kd.R_below (by simpa using hL) (by repeat (first | (with_reducible first | exact Below.refl _ _ | apply below_alloc | apply pw_below_drewN | apply below_drew1) | exact Below.refl _ _))
      · exact Kd.R_below (by simpa using hO) (by repeat (first | (with_reducible first | exact Below.refl _ _ | apply below_alloc | apply pw_below_drewN | apply below_drew1) | exact Below.refl _ _))
    rw [← hW1]
    clear hW1
    rw [show (⟨w.heap.size + 1 + 1, 0, none⟩ : Addr) = ⟨m, 0, none⟩ from by rw [hm], show (⟨w.heap.size + 1, 0, none⟩ : Addr) = ⟨gl, 0, none⟩ from by rw [hgl], show (⟨w.heap.size, 0, none⟩ : Addr) = ⟨gO, 0, none⟩ from by rw [hgO]]
    clear hm hgl hgO
    have hH : Aside0 (delim_Match.all k n l0 (delim_Match.init n l0 (List.replicate n 0) (List.replicate n false) 0).1 (delim_Match.init n l0 (List.replicate n 0) (List.replicate n false) 0).2 [] 0 = some r) := H
    obtain ⟨fin, hfin⟩ : ∃ f, f = delim_Match.init n l0 (List.replicate n 0) (List.replicate n false) 0 := ⟨_, rfl⟩
    rw [← hfin] at hH
    have HF := Aside0.mk hfin.symm
    have HM := Aside0.mk hM
    have HB := Aside0.mk hB
    clear hfin hM hB H
    go_loopw [20] (fun v wr => ∃ (z : Int) (d : Nat) (L : List Int) (O : List Bool), v = .int .i64 z ∧ 0 ≤ z ∧ z + d = n ∧ Aside0 (delim_Match.init d l0 L O z.toNat = fin) ∧ Aside0 (Mst w.heap.size wr m gl gO A0 n c0 n n L O) ∧ Aside0 (Below w.heap.size w wr)) (fun v _ => n - (intOf v).toNat)
    case atStart => exact ⟨0, n, _, _, rfl, by omega, by omega, HF, HM, HB⟩
    case round =>
      clear HM HB HF
      obtain ⟨z, d, L, O, rfl, hz0, hzd, HI, HM, HB⟩ := hrel
      by_cases hlt : z < n
      · obtain ⟨d, rfl⟩ : ∃ d', d = d' + 1 := ⟨d - 1, by omega⟩
        have HI2 : Aside0 (delim_Match.init d l0 (L.set z.toNat (mx 0 (rd_T27 l0 z).f1)) (O.set z.toNat (decide ((rd_T27 l0 z).f1 ≤ 0))) (z + 1).toNat = fin) := ⟨by
          have h := HI.out
          rw [delim_Match.init, Int.toNat_of_nonneg hz0] at h
          rw [show (z + 1).toNat = z.toNat + 1 by omega]
          exact h⟩
        have dlt : decide (z < (n : Int)) = true := decide_eq_true hlt
        have d0 : decide (0 ≤ z) = true := decide_eq_true hz0
        obtain ⟨ad, hA, a0, a1, a2, a3⟩ := at_T27 (Kd.C_below HR0.out HB.out) z hz0 hlt
        subst hA
        have q0 := World.block_lt_of_cell? wr _ a0
        clear HI
        by_cases hp : 0 < (rd_T27 l0 z).f1
        · have hv : mx 0 (rd_T27 l0 z).f1 = (rd_T27 l0 z).f1 := by unfold mx; rw [if_pos hp]
          rw [hv] at HI2
          clear hv
          go_wp2
          have hM2 := Aside0.mk (HM.out.below (below_alloc (Below.refl _ _) (.cells #[.int .u8 (rd_T27 l0 z).f0, .int .i64 (rd_T27 l0 z).f1, .bool (rd_T27 l0 z).f2, .bool (rd_T27 l0 z).f3] 27)))
          have hB2 := Aside0.mk (HB.out.alloc (HB.out.size) (.cells #[.int .u8 (rd_T27 l0 z).f0, .int .i64 (rd_T27 l0 z).f1, .bool (rd_T27 l0 z).f2, .bool (rd_T27 l0 z).f3] 27))
          have hc1 := Aside0.mk (blk_new wr (.cells #[.int .u8 (rd_T27 l0 z).f0, .int .i64 (rd_T27 l0 z).f1, .bool (rd_T27 l0 z).f2, .bool (rd_T27 l0 z).f3] 27 (0, 0)))
          have hlt1 := HM.out.lts
          obtain ⟨W2, hW2⟩ : ∃ W2, W2 = wr.alloc (.cells #[.int .u8 (rd_T27 l0 z).f0, .int .i64 (rd_T27 l0 z).f1, .bool (rd_T27 l0 z).f2, .bool (rd_T27 l0 z).f3] 27) := ⟨_, rfl⟩
          rw [← hW2] at hM2 hB2 hc1 ⊢
          clear hW2 HM HB a0 a1 a2 a3 q0
          have g1 := hM2.out.m1
          have g2 : W2.cell? ⟨wr.heap.size, 1, none⟩ = some (.int .i64 (rd_T27 l0 z).f1) := blk_cell hc1.out 1
          obtain ⟨g3, g4⟩ := hM2.out.cl z hz0 hlt
          go_region
          all_goals go_wp2
          have hM3 := Aside0.mk ((hM2.out.putL z ((rd_T27 l0 z).f1)).below (Below.refl _ _).drew)
          have hB3 := Aside0.mk (hB2.out.setCell (p := ⟨gl, z.toNat, none⟩) (by show w.heap.size ≤ gl; have := hM2.out.lts; omega) (.int .i64 (rd_T27 l0 z).f1)).drew
          have hc3 := Aside0.mk (blk_drew (blk_far hc1.out (p := ⟨gl, z.toNat, none⟩) (by show wr.heap.size ≠ gl; omega) (.int .i64 (rd_T27 l0 z).f1)))
          obtain ⟨W3, hW3⟩ : ∃ W3, W3 = (W2.setCell ⟨gl, z.toNat, none⟩ (.int .i64 (rd_T27 l0 z).f1)).drew := ⟨_, rfl⟩
          rw [← hW3] at hM3 hB3 hc3 ⊢
          clear hW3 hM2 hB2 hc1 g1 g2 g3 g4
          have g1 := hM3.out.m2
          have g2 : W3.cell? ⟨wr.heap.size, 1, none⟩ = some (.int .i64 (rd_T27 l0 z).f1) := blk_cell hc3.out 1
          obtain ⟨g3, g4⟩ := hM3.out.co z hz0 hlt
          go_region
          all_goals go_wp2
          go_roundw
          case rel =>
            exact ⟨z + 1, d, _, _, rfl, by omega, by omega, HI2, ⟨(hM3.out.putO z _).below (Below.refl _ _).drew⟩, ⟨(hB3.out.setCell (p := ⟨gO, z.toNat, none⟩) (by show w.heap.size ≤ gO; have := hM3.out.lts; omega) _).drew⟩⟩
          case measure =>
            simp [intOf]
            omega

        · have hv : mx 0 (rd_T27 l0 z).f1 = 0 := by unfold mx; rw [if_neg hp]
          rw [hv, show decide ((rd_T27 l0 z).f1 ≤ 0) = true from decide_eq_true (by omega)] at HI2
          clear hv
          go_wp2
          have hM2 := Aside0.mk (HM.out.below (below_alloc (Below.refl _ _) (.cells #[.int .u8 (rd_T27 l0 z).f0, .int .i64 (rd_T27 l0 z).f1, .bool (rd_T27 l0 z).f2, .bool (rd_T27 l0 z).f3] 27)))
          have hB2 := Aside0.mk (HB.out.alloc (HB.out.size) (.cells #[.int .u8 (rd_T27 l0 z).f0, .int .i64 (rd_T27 l0 z).f1, .bool (rd_T27 l0 z).f2, .bool (rd_T27 l0 z).f3] 27))
          have hc1 := Aside0.mk (blk_new wr (.cells #[.int .u8 (rd_T27 l0 z).f0, .int .i64 (rd_T27 l0 z).f1, .bool (rd_T27 l0 z).f2, .bool (rd_T27 l0 z).f3] 27 (0, 0)))
          have hlt1 := HM.out.lts
          obtain ⟨W2, hW2⟩ : ∃ W2, W2 = wr.alloc (.cells #[.int .u8 (rd_T27 l0 z).f0, .int .i64 (rd_T27 l0 z).f1, .bool (rd_T27 l0 z).f2, .bool (rd_T27 l0 z).f3] 27) := ⟨_, rfl⟩
          rw [← hW2] at hM2 hB2 hc1 ⊢
          clear hW2 HM HB a0 a1 a2 a3 q0
          have g1 := hM2.out.m1
          have g2 : W2.cell? ⟨wr.heap.size, 1, none⟩ = some (.int .i64 (rd_T27 l0 z).f1) := blk_cell hc1.out 1
          obtain ⟨g3, g4⟩ := hM2.out.cl z hz0 hlt
          go_region
          all_goals go_wp2
          have hM3 := Aside0.mk ((hM2.out.putL z (0)).below (Below.refl _ _).drew)
          have hB3 := Aside0.mk (hB2.out.setCell (p := ⟨gl, z.toNat, none⟩) (by show w.heap.size ≤ gl; have := hM2.out.lts; omega) (.int .i64 0)).drew
          have hc3 := Aside0.mk (blk_drew (blk_far hc1.out (p := ⟨gl, z.toNat, none⟩) (by show wr.heap.size ≠ gl; omega) (.int .i64 0)))
          obtain ⟨W3, hW3⟩ : ∃ W3, W3 = (W2.setCell ⟨gl, z.toNat, none⟩ (.int .i64 0)).drew := ⟨_, rfl⟩
          rw [← hW3] at hM3 hB3 hc3 ⊢
          clear hW3 hM2 hB2 hc1 g1 g2 g3 g4
          have g1 := hM3.out.m2
          have g2 : W3.cell? ⟨wr.heap.size, 1, none⟩ = some (.int .i64 (rd_T27 l0 z).f1) := blk_cell hc3.out 1
          obtain ⟨g3, g4⟩ := hM3.out.co z hz0 hlt
          go_region
          all_goals go_wp2
          go_roundw
          case rel =>
            exact ⟨z + 1, d, _, _, rfl, by omega, by omega, HI2, ⟨(hM3.out.putO z _).below (Below.refl _ _).drew⟩, ⟨(hB3.out.setCell (p := ⟨gO, z.toNat, none⟩) (by show w.heap.size ≤ gO; have := hM3.out.lts; omega) _).drew⟩⟩
          case measure =>
            simp [intOf]
            omega
      · have hzn : z = n := by omega
        obtain rfl : d = 0 := by omega
        have hfin : (L, O) = fin := by
          have h := HI.out
          rw [delim_Match.init] at h
          exact h
        rw [← hfin] at hH
        clear hfin HI
        have dlt : decide (z < (n : Int)) = false := decide_eq_false hlt
        clear hzn hlt hz0 hzd
        obtain ⟨wo, rfl⟩ : ∃ wo : World, wo = wr := ⟨_, rfl⟩
        go_wp2
        have HMs := Aside0.mk HM.out
        go_loopw [46, 6] (fun v v6 wr => ∃ (z : Int) (d : Nat) (L : List Int) (O : List Bool) (ps : List S33), v = .int .i64 z ∧ 0 ≤ z ∧ z + d = n ∧ Aside0 (delim_Match.all k d l0 L O ps z.toNat = some r) ∧ Aside0 (Mst w.heap.size wr m gl gO A0 n c0 n n L O) ∧
          Aside0 (Kd.R k33 33 wr w.heap.size (fun q => q ≠ m ∧ q ≠ gl ∧ q ≠ gO) v6 ps) ∧ Aside0 (Below w.heap.size w wr)) (fun v _ _ => n - (intOf v).toNat)
        case atStart => exact ⟨0, n, L, O, [], rfl, by omega, by omega, hH, HM, ⟨Kd.R_nil _ _ _ _ _⟩, HB⟩
        case round =>
          clear HMs HM HB hH
          obtain ⟨z, d, L, O, ps, rfl, hz0, hzd, HT, HM, HP, HB⟩ := hrel
          by_cases hlt : z < n
          · obtain ⟨d, rfl⟩ : ∃ d', d = d' + 1 := ⟨d - 1, by omega⟩
            have hT := HT.out
            rw [delim_Match.all] at hT
            obtain ⟨t, hw0, ha⟩ := Option.bind_eq_some_iff.mp hT
            have HA : Aside0 (delim_Match.all k d l0 t.1 t.2.1 t.2.2 (z + 1).toNat = some r) := ⟨by rw [show (z + 1).toNat = z.toNat + 1 by omega]; exact ha⟩
            have HW := Aside0.mk hw0
            clear hT HT hw0 ha
            have dlt : decide (z < (n : Int)) = true := decide_eq_true hlt
            have d0 : decide (0 ≤ z) = true := decide_eq_true hz0
            obtain ⟨wo, rfl⟩ : ∃ wo : World, wo = wr := ⟨_, rfl⟩
            go_wp2
            go_loopg [6] k (fun kq v6 wr => ∃ (L : List Int) (O : List Bool) (ps : List S33) (V6 : Value), V6 = v6 ∧ Aside0 (delim_Match.while_ kq l0 L O ps z.toNat = some t) ∧ Aside0 (Mst w.heap.size wr m gl gO A0 n c0 n n L O) ∧
              Aside0 (Kd.R k33 33 wr w.heap.size (fun q => q ≠ m ∧ q ≠ gl ∧ q ≠ gO) v6 ps) ∧ Aside0 (Below w.heap.size w wr))
            case atStart => exact ⟨L, O, ps, _, rfl, HW, HM, HP, HB⟩
            case round =>
              clear HW HM HP HB
              obtain ⟨L, O, ps, V6, rfl, HW, HM, HP, HB⟩ := hrel
              cases gk with
              | zero => exact absurd HW.out (by simp [delim_Match.while_])
              | succ k1 =>
                have hW := HW.out
                rw [delim_Match.while_, Int.toNat_of_nonneg hz0] at hW
                clear HW
                obtain ⟨ad, hA, a0, a1, a2, a3⟩ := at_T27 (Kd.C_below HR0.out HB.out) z hz0 hlt
                subst hA
                have g1 := HM.out.m1
                have g2 := HM.out.m2
                obtain ⟨g3, g4⟩ := HM.out.co z hz0 hlt
                obtain ⟨g5, g6⟩ := HM.out.cl z hz0 hlt
                by_cases c1 : rdOf false O z = true
                · rw [if_pos c1] at hW
                  obtain rfl := Option.some.inj hW
                  clear hW
                  go_wp2
                  go_roundw
                  case rel => exact ⟨z + 1, d, L, O, ps, rfl, by omega, by omega, HA, HM, HP, HB⟩
                  case measure =>
                    simp [intOf]
                    omega
                · rw [if_neg c1] at hW
                  have c1' : rdOf false O z = false := by simpa using c1
                  clear c1
                  by_cases c2 : (rd_T27 l0 z).f3 = true
                  · rw [if_pos c2] at hW
                    by_cases c3 : rd L z > 0
                    · rw [if_pos c3] at hW
                      have c3' : decide (0 < rd L z) = true := decide_eq_true c3
                      have HW := Aside0.mk hW
                      clear hW c3
                      obtain ⟨w2, rfl⟩ : ∃ wo : World, wo = wr := ⟨_, rfl⟩
                      go_wp2
                      clear g1 g2 g3 g4 g5 g6 a0 a1 a2 a3 c1' c2 c3'
                      go_loopw [8] (fun v wr => ∃ (y : Int), v = .int .i64 y ∧ -1 ≤ y ∧ y < z ∧ Aside0 (delim_Match.find l0 L O z.toNat (y + 1).toNat = delim_Match.find l0 L O z.toNat z.toNat) ∧ Aside0 (Mst w.heap.size wr m gl gO (some ad) n c0 n n L O) ∧
                        Aside0 (Kd.R k33 33 wr w.heap.size (fun q => q ≠ m ∧ q ≠ gl ∧ q ≠ gO) V6 ps) ∧ Aside0 (Below w.heap.size w wr)) (fun v _ => (intOf v + 1).toNat)
                      case atStart => exact ⟨z - 1, rfl, by omega, by omega, ⟨by rw [show (z - 1 + 1).toNat = z.toNat by omega]⟩, HM, HP, HB⟩
                      case round =>
                        clear HM HP HB
                        obtain ⟨y, rfl, hy0, hy1, HFd, HM, HP, HB⟩ := hrel
                        by_cases hy : 0 ≤ y
                        · have dy : decide (0 ≤ y) = true := decide_eq_true hy
                          have dy2 : decide (y < 0) = false := decide_eq_false (by omega)
                          obtain ⟨g5, _⟩ := HM.out.cl y hy (by omega)
                          obtain ⟨g3, _⟩ := HM.out.co y hy (by omega)
                          have hfd := HFd.out
                          rw [show (y + 1).toNat = y.toNat + 1 by omega, delim_Match.find, Int.toNat_of_nonneg hy, Int.toNat_of_nonneg hz0] at hfd
                          clear HFd
                          have HF := Aside0.mk (fits.calls m gl gO c0 n n (some ad) l0 L O y z wr (by rw [← HN.out]; exact HM.out.m0) (by rw [← HN.out]; exact HM.out.m1) (by rw [← HN.out]; exact HM.out.m2) (by rw [← HN.out]; exact Kd.C_below HR0.out HB.out) g5 g3 hy (by rw [← HN.out]; omega) hz0 (by rw [← HN.out]; omega))
                          by_cases cf : fitsF l0 L O y z = true
                          · rw [if_pos cf] at hfd
                            have hf1 : ((delim_Match.find l0 L O z.toNat z.toNat : Nat) : Int) - 1 = y := by rw [← hfd]; omega
                            have hf0 : ¬ delim_Match.find l0 L O z.toNat z.toNat = 0 := by rw [← hfd]; omega
                            have hW := HW.out
                            rw [if_neg hf0, hf1] at hW
                            clear hf0 hf1 hfd HW g5 g3
                            by_cases hpl : ps.length < 1000000000
                            · rw [if_pos hpl] at hW
                              have HW := Aside0.mk hW
                              clear hW
                              rw [cf] at HF
                              clear cf
                              have hs0 := HB.out.size
                              go_wp2_with (first | ((with_reducible refine gate_callee (f := 15) rfl ?_); refine gate_guard (by rfl) ?_; dsimp only; refine goesL_ (some 82) rfl rfl Try.func15 (by kernel_rfl) rfl #[.pointer (some ⟨m, 0, none⟩), .int .i64 y, .int .i64 z] rfl (by (try simp only [List.map_toArray, List.map_cons, List.map_nil]); first | done | rfl) ?_; refine HF.out.mono ?_; rintro e w' ⟨rfl, hb⟩; have hs1 := hb.size; have HM2 := Aside0.mk (HM.out.below hb); have HP2 := Aside0.mk (Kd.R_below HP.out hb); have HB2 := Aside0.mk (HB.out.trans (hb.mono HB.out.size)); clear hb; refine ⟨_, rfl, ?_⟩) | (go_at_call 16; refine (pair.calls w.heap.size m gl gO n c0 n n (some ad) L O y z _ (by omega) HM2.out hy hy1 hlt hz).mono ?_; rintro e w'' ⟨rfl, hb, hk, hm⟩; have HM3 := Aside0.mk hm; have HP3 := Aside0.mk (Kd.R_kept HP2.out hk (fun q hq hs => hs.elim hq.2.1 hq.2.2)); have HB3 := Aside0.mk (HB2.out.trans hb); clear hb hk hm) | (at_builtin; refine Kd.R_append k33 (w0 := w) w.heap.size rfl (.tmp 101) (.tmp 106) 28 33 (.agg #[.int .i64 0, .int .i64 0, .bool false]) 24 rfl Try.underlying28 infoB33 rfl (by decide) (by decide) _ ps (⟨y, z, strongF L y z⟩ : S33) [.int .i64 y, .int .i64 z, .bool (strongF L y z)] (fun q => q ≠ m ∧ q ≠ gl ∧ q ≠ gO) (fun _ => False) rfl rfl ?aP (fun _ hk => hk.elim) ?aF ?aO ?aB ?aS ?aL ?_; (case aP => exact k33_mkM _ _ _ _); (case aB => exact HB3.out); (case aF => exact fun q hq => by have := HM3.out.lts; omega); (case aO => exact HP3.out); (case aS => exact HB3.out.size); (case aL => omega); intro v1 w1 ho hb hg hat; have HP4 := Aside0.mk ho; have HB4 := Aside0.mk hb; have HM4 := Aside0.mk (HM3.out.grown hg (HP3.out.1)); clear ho hb hg hat))
                              go_roundg k1
                              case rel => exact ⟨pairL L y z, pairO L O y z, ps ++ [⟨y, z, strongF L y z⟩], _, rfl, HW, HM4, HP4, HB4⟩
                              case measure => omega
                            · rw [if_neg hpl] at hW
                              exact absurd hW (by simp)
                          · rw [if_neg cf] at hfd
                            have cf' : fitsF l0 L O y z = false := by simpa using cf
                            have HFd := Aside0.mk hfd
                            rw [cf'] at HF
                            clear cf cf' hfd g5 g3
                            have hs0 := HB.out.size
                            go_wp2_with (first | ((with_reducible refine gate_callee (f := 15) rfl ?_); refine gate_guard (by rfl) ?_; dsimp only; refine goesL_ (some 82) rfl rfl Try.func15 (by kernel_rfl) rfl #[.pointer (some ⟨m, 0, none⟩), .int .i64 y, .int .i64 z] rfl (by (try simp only [List.map_toArray, List.map_cons, List.map_nil]); first | done | rfl) ?_; refine HF.out.mono ?_; rintro e w' ⟨rfl, hb⟩; have hs1 := hb.size; have HM2 := Aside0.mk (HM.out.below hb); have HP2 := Aside0.mk (Kd.R_below HP.out hb); have HB2 := Aside0.mk (HB.out.trans (hb.mono HB.out.size)); clear hb; refine ⟨_, rfl, ?_⟩))
                            go_roundw
                            case rel => exact ⟨y - 1, rfl, by omega, by omega, ⟨by rw [show (y - 1 + 1).toNat = y.toNat by omega]; exact HFd.out⟩, HM2, HP2, HB2⟩
                            case measure =>
                              simp [intOf]
                              omega
                        · obtain rfl : y = -1 := by omega
                          have hfd := HFd.out
                          rw [show ((-1 : Int) + 1).toNat = 0 from rfl, delim_Match.find] at hfd
                          have hW := HW.out
                          rw [if_pos hfd.symm] at hW
                          obtain rfl := Option.some.inj hW
                          clear hW HW hfd HFd hy0 hy1 hy
                          obtain ⟨ad2, hA2, a0, a1, a2, a3⟩ := at_T27 (Kd.C_below HR0.out HB.out) z hz0 hlt
                          cases hA2
                          have g2 := HM.out.m2
                          obtain ⟨g3, g4⟩ := HM.out.co z hz0 hlt
                          go_wp2
                          go_region
                          all_goals go_wp2
                          go_roundw
                          case rel => exact ⟨z + 1, d, L, _, ps, rfl, by omega, by omega, HA, ⟨(HM.out.putO z _).below (Below.refl _ _).drew⟩, ⟨Kd.R_below (Kd.R_far HP.out (p := ⟨gO, z.toNat, none⟩) (fun q hq => hq.2.2) _) (Below.refl _ _).drew⟩, ⟨(HB.out.setCell (p := ⟨gO, z.toNat, none⟩) (by show w.heap.size ≤ gO; have := HM.out.lts; omega) _).drew⟩⟩
                          case measure =>
                            simp [intOf]
                            omega
                    · rw [if_neg c3] at hW
                      have c3' : decide (0 < rd L z) = false := decide_eq_false c3
                      obtain rfl := Option.some.inj hW
                      clear hW c3
                      go_wp2
                      go_roundw
                      case rel => exact ⟨z + 1, d, L, O, ps, rfl, by omega, by omega, HA, HM, HP, HB⟩
                      case measure =>
                        simp [intOf]
                        omega
                  · rw [if_neg c2] at hW
                    have c2' : (rd_T27 l0 z).f3 = false := by simpa using c2
                    obtain rfl := Option.some.inj hW
                    clear hW c2
                    go_wp2
                    go_roundw
                    case rel => exact ⟨z + 1, d, L, O, ps, rfl, by omega, by omega, HA, HM, HP, HB⟩
                    case measure =>
                      simp [intOf]
                      omega
          · obtain rfl : d = 0 := by omega
            have hT := HT.out
            rw [delim_Match.all] at hT
            obtain rfl := Option.some.inj hT
            have dlt : decide (z < (n : Int)) = false := decide_eq_false hlt
            clear hT HT
            go_wp2
            go_ret
            exact ⟨_, rfl, Kd.R_mono HP.out (fun _ _ => trivial), HB.out⟩

end Go.Proofs.Ytojmhdooglihaaa.PA
