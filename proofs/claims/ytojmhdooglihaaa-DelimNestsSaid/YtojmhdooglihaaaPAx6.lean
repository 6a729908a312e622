-- Printed by a program of this workplace (a turned printer): functions, and proofs that the calls come to them.
import Derived.Test.YtojmhdooglihaaaPAx0
import Derived.Test.YtojmhdooglihaaaPAx4
namespace Go.Proofs.Ytojmhdooglihaaa.PA
open Go.RowKit Go.Proofs.YtojmhdooglihaaaW.PrintWords Go.Proofs.YtojmhdooglihaaaW.PrintLast Go.Proofs.YtojmhdooglihaaaW.PrintMore
attribute [local go_sem] max2_int min2_int max_two min_two max_three min_three max_four min_four   -- for this text's walks alone
set_option linter.unusedVariables false
set_option linter.unusedSimpArgs false

/-! ### rubricatorref20_Match: function 11 -/
/-- A state of the document's at block m. -/
structure Rst (b0 : Nat) (w : World) (m gl gO : Nat) (AL : Option Addr) (n c1 c2 c3 : Nat) (left : List Int) (out : List Bool) : Prop where
  blk : w.heap[m]? = some (.cells #[.slice AL n c1, .slice (some ⟨gl, 0, none⟩) n c2, .slice (some ⟨gO, 0, none⟩) n c3] 50 (0, 0))
  rl : Kd.R (Kd.int .i64) 3 w b0 (fun k => k = gl) (.slice (some ⟨gl, 0, none⟩) n c2) left
  rO : Kd.R Kd.bool 4 w b0 (fun k => k = gO) (.slice (some ⟨gO, 0, none⟩) n c3) out
  mb : b0 ≤ m
  n1 : m ≠ gl
  n2 : m ≠ gO
  n3 : gl ≠ gO
section
variable {b0 m gl gO n c1 c2 c3 : Nat} {w : World} {AL : Option Addr} {left : List Int} {out : List Bool}
theorem Rst.lts (h : Rst b0 w m gl gO AL n c1 c2 c3 left out) : m < w.heap.size ∧ gl < w.heap.size ∧ gO < w.heap.size ∧ b0 ≤ gl ∧ b0 ≤ gO := ⟨blk_lt h.blk, (R_base h.rl).2, (R_base h.rO).2, (R_base h.rl).1, (R_base h.rO).1⟩
theorem Rst.m0 (h : Rst b0 w m gl gO AL n c1 c2 c3 left out) : w.cell? ⟨m, 0, none⟩ = some (.slice AL n c1) := blk_cell h.blk 0
theorem Rst.m1 (h : Rst b0 w m gl gO AL n c1 c2 c3 left out) : w.cell? ⟨m, 1, none⟩ = some (.slice (some ⟨gl, 0, none⟩) n c2) := blk_cell h.blk 1
theorem Rst.m2 (h : Rst b0 w m gl gO AL n c1 c2 c3 left out) : w.cell? ⟨m, 2, none⟩ = some (.slice (some ⟨gO, 0, none⟩) n c3) := blk_cell h.blk 2
theorem Rst.cl (h : Rst b0 w m gl gO AL n c1 c2 c3 left out) (i : Int) (h0 : 0 ≤ i) (hi : i < n) : w.cell? ⟨gl, i.toNat, none⟩ = some (.int .i64 (rd left i)) ∧ w.frozen? ⟨gl, i.toNat, none⟩ = false := Kd.R_celln 0 h.rl i h0 hi
theorem Rst.co (h : Rst b0 w m gl gO AL n c1 c2 c3 left out) (i : Int) (h0 : 0 ≤ i) (hi : i < n) : w.cell? ⟨gO, i.toNat, none⟩ = some (.bool (rdOf false out i)) ∧ w.frozen? ⟨gO, i.toNat, none⟩ = false := Kd.R_celln false h.rO i h0 hi
theorem Rst.putL (h : Rst b0 w m gl gO AL n c1 c2 c3 left out) (i v : Int) : Rst b0 (w.setCell ⟨gl, i.toNat, none⟩ (.int .i64 v)) m gl gO AL n c1 c2 c3 (left.set i.toNat v) out :=
  ⟨blk_far h.blk (p := ⟨gl, i.toNat, none⟩) h.n1 _, Kd.R_putn h.rl i v, Kd.R_far h.rO (p := ⟨gl, i.toNat, none⟩) (fun k hk => by subst hk; exact fun e => h.n3 e.symm) _, h.mb, h.n1, h.n2, h.n3⟩
theorem Rst.putO (h : Rst b0 w m gl gO AL n c1 c2 c3 left out) (i : Int) (v : Bool) : Rst b0 (w.setCell ⟨gO, i.toNat, none⟩ (.bool v)) m gl gO AL n c1 c2 c3 left (out.set i.toNat v) :=
  ⟨blk_far h.blk (p := ⟨gO, i.toNat, none⟩) h.n2 _, Kd.R_far h.rl (p := ⟨gO, i.toNat, none⟩) (fun k hk => by subst hk; exact h.n3) _, Kd.R_putn h.rO i v, h.mb, h.n1, h.n2, h.n3⟩
theorem Rst.kept {W : World} {S : Nat → Prop} (h : Rst b0 w m gl gO AL n c1 c2 c3 left out) (hk : Kept w W S) (h1 : ¬ S m) (h2 : ¬ S gl) (h3 : ¬ S gO) : Rst b0 W m gl gO AL n c1 c2 c3 left out :=
  ⟨blk_kept h.blk hk h1, Kd.R_kept h.rl hk (fun k hk => by subst hk; exact h2), Kd.R_kept h.rO hk (fun k hk => by subst hk; exact h3), h.mb, h.n1, h.n2, h.n3⟩
theorem Rst.below {W : World} (h : Rst b0 w m gl gO AL n c1 c2 c3 left out) (hb : Below w.heap.size w W) : Rst b0 W m gl gO AL n c1 c2 c3 left out := h.kept (S := fun _ => False) (Kept.of_below hb _) id id id
theorem Rst.grown (h : Rst b0 w m gl gO AL n c1 c2 c3 left out) {W : World} {row : Option Nat} (hg : w.grownBy W row) (hr : ∀ q, row = some q → q ≠ m ∧ q ≠ gl ∧ q ≠ gO) : Rst b0 W m gl gO AL n c1 c2 c3 left out :=
  h.kept (S := fun q => row = some q) ⟨hg.size, fun i hi hn => hg.block i hi (fun e => hn e.symm)⟩ (fun e => (hr _ e).1 rfl) (fun e => (hr _ e).2.1 rfl) (fun e => (hr _ e).2.2 rfl)
end
/-- May two marks be paired, as the document tells it: its last word. -/
def rtail (a b : S26) : Bool :=
  if (if a.f3 = true then true else (if b.f2 = true then b.f3 else false)) = true then
    (if Int.tmod (wrap64 (Int.tmod a.f1 3 + Int.tmod b.f1 3)) 3 = 0 then (if Int.tmod a.f1 3 = 0 then decide (Int.tmod b.f1 3 = 0) else false) else true)
  else true
def rfits (l : List S26) (left : List Int) (out : List Bool) (x y : Int) : Bool :=
  if rdOf false out x = true then false
  else if (rd_T26 l x).f2 = true then
    (if (rd_T26 l x).f0 = (rd_T26 l y).f0 then (if rd left x < 1 then false else rtail (rd_T26 l x) (rd_T26 l y)) else false)
  else false
def rfind (l : List S26) (L : List Int) (O : List Bool) (tt : Nat) : Nat → Int
  | 0 => -1
  | m + 1 => if rfits l L O (m : Int) (tt : Int) = true then (m : Int) else rfind l L O tt m
set_option maxHeartbeats 8000000 in
set_option maxRecDepth 100000 in
theorem opener.calls (b0 m gl gO n c1 c2 c3 : Nat) (AL : Option Addr) (l : List S26) (left : List Int) (out : List Bool) (y : Int) (w : World)
  (hs : Rst b0 w m gl gO AL n c1 c2 c3 left out) (hl : Kd.C k26 w AL n l) (y0 : 0 ≤ y) (y1 : y < n) (hn : n ≤ 1099511627776) :
    Calls Try.prog 17 #[.pointer (some ⟨m, 0, none⟩), .int .i64 y] w fun e w' => e = .returned (.int .i64 (rfind l left out y.toNat y.toNat)) ∧ Below w.heap.size w w' := by
  obtain ⟨ad, hA, b0', b1', b2', b3'⟩ := at_T26 hl y y0 y1
  subst hA
  have HL := Aside0.mk hl
  have HS := Aside0.mk hs
  have hm0 := hs.m0
  have q1 : (ad.add (y.toNat * 4)).block < w.heap.size := World.block_lt_of_cell? w _ b0'
  have dy1 : decide (y < (n : Int)) = true := decide_eq_true y1
  have dy0 : decide (0 ≤ y) = true := decide_eq_true y0
  obtain ⟨v0, f0⟩ : ∃ u, u = (rd_T26 l y).f0 := ⟨_, rfl⟩
  obtain ⟨v1, f1⟩ : ∃ u, u = (rd_T26 l y).f1 := ⟨_, rfl⟩
  obtain ⟨v2, f2⟩ : ∃ u, u = (rd_T26 l y).f2 := ⟨_, rfl⟩
  obtain ⟨v3, f3⟩ : ∃ u, u = (rd_T26 l y).f3 := ⟨_, rfl⟩
  have EV : Aside0 (rd_T26 l y = ⟨v0, v1, v2, v3⟩) := ⟨by rw [f0, f1, f2, f3]⟩
  rw [← f0] at b0'; rw [← f1] at b1'; rw [← f2] at b2'; rw [← f3] at b3'
  clear f0 f1 f2 f3 hl hs
  obtain ⟨r, er⟩ : ∃ r, r = rfind l left out y.toNat y.toNat := ⟨_, rfl⟩
  rw [← er]
  have ER := Aside0.mk er.symm
  clear er
  go_enter Try.func17, Try.ntmps17
  go_wp2
  have HB := Aside0.mk (below_alloc (Below.refl w.heap.size w) (.cells #[.int .u8 v0, .int .i64 v1, .bool v2, .bool v3] 26))
  have HC := Aside0.mk (blk_new w (.cells #[.int .u8 v0, .int .i64 v1, .bool v2, .bool v3] 26 (0, 0)))
  clear b0' b1' b2' b3' q1 hm0
  go_loopw [6] (fun v wr => ∃ x : Int, v = .int .i64 x ∧ -1 ≤ x ∧ x < y ∧ Aside0 (rfind l left out y.toNat (x + 1).toNat = r) ∧ Aside0 (wr.heap[w.heap.size]? = some (.cells #[.int .u8 v0, .int .i64 v1, .bool v2, .bool v3] 26 (0, 0))) ∧ Aside0 (Below w.heap.size w wr)) (fun v _ => (intOf v + 1).toNat)
  case atStart => exact ⟨y - 1, rfl, by omega, by omega, ⟨by rw [show (y - 1 + 1).toNat = y.toNat by omega]; exact ER.out⟩, HC, HB⟩
  case round =>
    clear HC HB ER
    obtain ⟨x, rfl, hx0, hx1, HF, HC, HB⟩ := hrel
    by_cases hx : 0 ≤ x
    · have dx : decide (0 ≤ x) = true := decide_eq_true hx
      have dx1 : decide (x < (n : Int)) = true := decide_eq_true (by omega)
      have HS2 := Aside0.mk (HS.out.below HB.out)
      have hm0 := HS2.out.m0
      have hm1 := HS2.out.m1
      have hm2 := HS2.out.m2
      have hlts := HS2.out.lts
      obtain ⟨ad', hA', a0, a1, a2, a3⟩ := at_T26 (Kd.C_below HL.out HB.out) x hx (by omega)
      cases hA'
      have q0 := World.block_lt_of_cell? wr _ a0
      have qc := blk_lt HC.out
      obtain ⟨hf, _⟩ := HS2.out.cl x hx (by omega)
      obtain ⟨ho, _⟩ := HS2.out.co x hx (by omega)
      have h0 : wr.cell? ⟨w.heap.size, 0, none⟩ = some (.int .u8 v0) := blk_cell HC.out 0
      have h1 : wr.cell? ⟨w.heap.size, 1, none⟩ = some (.int .i64 v1) := blk_cell HC.out 1
      have h2 : wr.cell? ⟨w.heap.size, 2, none⟩ = some (.bool v2) := blk_cell HC.out 2
      have h3 : wr.cell? ⟨w.heap.size, 3, none⟩ = some (.bool v3) := blk_cell HC.out 3
      have er := HF.out
      rw [show (x + 1).toNat = x.toNat + 1 by omega, rfind, Int.toNat_of_nonneg hx, Int.toNat_of_nonneg y0] at er
      unfold rfits rtail at er
      rw [EV.out] at er
      obtain ⟨u0, e0⟩ : ∃ u, u = (rd_T26 l x).f0 := ⟨_, rfl⟩
      obtain ⟨u1, e1⟩ : ∃ u, u = (rd_T26 l x).f1 := ⟨_, rfl⟩
      obtain ⟨u2, e2⟩ : ∃ u, u = (rd_T26 l x).f2 := ⟨_, rfl⟩
      obtain ⟨u3, e3⟩ : ∃ u, u = (rd_T26 l x).f3 := ⟨_, rfl⟩
      obtain ⟨o, eo⟩ : ∃ u, u = rdOf false out x := ⟨_, rfl⟩
      obtain ⟨t, et⟩ : ∃ u, u = rd left x := ⟨_, rfl⟩
      rw [← e0] at a0; rw [← e1] at a1; rw [← e2] at a2; rw [← e3] at a3
      rw [← eo] at ho; rw [← et] at hf
      rw [← e0, ← e1, ← e2, ← e3, ← eo, ← et] at er
      clear e0 e1 e2 e3 eo et HF
      by_cases c1 : o = true
      · subst c1
        simp only [if_true, reduceIte] at er
        try simp only [Bool.false_eq_true, if_false] at er
        have HF := Aside0.mk er
        clear er
        go_wp2
        go_roundw
        case rel => exact ⟨x - 1, rfl, by omega, by omega, ⟨by rw [show (x - 1 + 1).toNat = x.toNat by omega]; exact HF.out⟩, ⟨(by repeat (first | refine blk_alloc ?_ _ | exact HC.out))⟩, ⟨by repeat (first | (with_reducible first | exact HB.out | apply below_alloc | apply pw_below_drewN | apply below_drew1) | exact HB.out)⟩⟩
        case measure =>
          simp [intOf]
          omega
      · obtain rfl : o = false := by simpa using c1
        simp only [Bool.false_eq_true, if_false, reduceIte] at er
        by_cases c2 : u2 = true
        · subst c2
          simp only [if_true, reduceIte] at er
          by_cases c3 : u0 = v0
          · simp only [if_pos c3] at er
            have c3a : (u0 == v0) = true := beq_iff_eq.mpr c3
            have c3b : (u0 != v0) = false := bne_eq_false_iff_eq.mpr c3
            clear c3
            by_cases cl : t < 1
            · rw [if_pos cl] at er
              have cla : decide (t < 1) = true := decide_eq_true cl
              clear cl
              try simp only [Bool.false_eq_true, if_false] at er
              have HF := Aside0.mk er
              clear er
              go_wp2
              go_roundw
              case rel => exact ⟨x - 1, rfl, by omega, by omega, ⟨by rw [show (x - 1 + 1).toNat = x.toNat by omega]; exact HF.out⟩, ⟨(by repeat (first | refine blk_alloc ?_ _ | exact HC.out))⟩, ⟨by repeat (first | (with_reducible first | exact HB.out | apply below_alloc | apply pw_below_drewN | apply below_drew1) | exact HB.out)⟩⟩
              case measure =>
                simp [intOf]
                omega
            · rw [if_neg cl] at er
              have cla : decide (t < 1) = false := decide_eq_false cl
              clear cl
              by_cases c4 : u3 = true
              · subst c4
                simp only [if_true, reduceIte] at er
                by_cases c6 : Int.tmod (wrap64 (Int.tmod u1 3 + Int.tmod v1 3)) 3 = 0
                · simp only [if_pos c6] at er
                  have c6a : (Int.tmod (wrap64 (Int.tmod u1 3 + Int.tmod v1 3)) 3 == 0) = true := beq_iff_eq.mpr c6
                  have c6b : (Int.tmod (wrap64 (Int.tmod u1 3 + Int.tmod v1 3)) 3 != 0) = false := bne_eq_false_iff_eq.mpr c6
                  clear c6
                  by_cases c7 : Int.tmod u1 3 = 0
                  · simp only [if_pos c7] at er
                    have c7a : (Int.tmod u1 3 == 0) = true := beq_iff_eq.mpr c7
                    have c7b : (Int.tmod u1 3 != 0) = false := bne_eq_false_iff_eq.mpr c7
                    clear c7
                    by_cases c8 : Int.tmod v1 3 = 0
                    · have c8a : (Int.tmod v1 3 == 0) = true := beq_iff_eq.mpr c8
                      have c8b : (Int.tmod v1 3 != 0) = false := bne_eq_false_iff_eq.mpr c8
                      simp only [c8, decide_true] at er
                      clear c8
                      try simp only [if_true] at er
                      subst er
                      go_wp2
                      go_ret
                      exact ⟨rfl, by repeat (first | (with_reducible first | exact HB.out | apply below_alloc | apply pw_below_drewN | apply below_drew1) | exact HB.out)⟩
                    · have c8a : (Int.tmod v1 3 == 0) = false := beq_eq_false_iff_ne.mpr c8
                      have c8b : (Int.tmod v1 3 != 0) = true := bne_iff_ne.mpr c8
                      simp only [c8, decide_false] at er
                      clear c8
                      try simp only [Bool.false_eq_true, if_false] at er
                      have HF := Aside0.mk er
                      clear er
                      go_wp2
                      go_roundw
                      case rel => exact ⟨x - 1, rfl, by omega, by omega, ⟨by rw [show (x - 1 + 1).toNat = x.toNat by omega]; exact HF.out⟩, ⟨(by repeat (first | refine blk_alloc ?_ _ | exact HC.out))⟩, ⟨by repeat (first | (with_reducible first | exact HB.out | apply below_alloc | apply pw_below_drewN | apply below_drew1) | exact HB.out)⟩⟩
                      case measure =>
                        simp [intOf]
                        omega
                  · simp only [if_neg c7] at er
                    have c7a : (Int.tmod u1 3 == 0) = false := beq_eq_false_iff_ne.mpr c7
                    have c7b : (Int.tmod u1 3 != 0) = true := bne_iff_ne.mpr c7
                    clear c7
                    try simp only [Bool.false_eq_true, if_false] at er
                    have HF := Aside0.mk er
                    clear er
                    go_wp2
                    go_roundw
                    case rel => exact ⟨x - 1, rfl, by omega, by omega, ⟨by rw [show (x - 1 + 1).toNat = x.toNat by omega]; exact HF.out⟩, ⟨(by repeat (first | refine blk_alloc ?_ _ | exact HC.out))⟩, ⟨by repeat (first | (with_reducible first | exact HB.out | apply below_alloc | apply pw_below_drewN | apply below_drew1) | exact HB.out)⟩⟩
                    case measure =>
                      simp [intOf]
                      omega
                · simp only [if_neg c6] at er
                  have c6a : (Int.tmod (wrap64 (Int.tmod u1 3 + Int.tmod v1 3)) 3 == 0) = false := beq_eq_false_iff_ne.mpr c6
                  have c6b : (Int.tmod (wrap64 (Int.tmod u1 3 + Int.tmod v1 3)) 3 != 0) = true := bne_iff_ne.mpr c6
                  clear c6
                  try simp only [if_true] at er
                  subst er
                  go_wp2
                  go_ret
                  exact ⟨rfl, by repeat (first | (with_reducible first | exact HB.out | apply below_alloc | apply pw_below_drewN | apply below_drew1) | exact HB.out)⟩
              · obtain rfl : u3 = false := by simpa using c4
                simp only [Bool.false_eq_true, if_false, reduceIte] at er
                by_cases c5 : v2 = true
                · subst c5
                  simp only [if_true, reduceIte] at er
                  by_cases c9 : v3 = true
                  · subst c9
                    simp only [if_true, reduceIte] at er
                    by_cases c6 : Int.tmod (wrap64 (Int.tmod u1 3 + Int.tmod v1 3)) 3 = 0
                    · simp only [if_pos c6] at er
                      have c6a : (Int.tmod (wrap64 (Int.tmod u1 3 + Int.tmod v1 3)) 3 == 0) = true := beq_iff_eq.mpr c6
                      have c6b : (Int.tmod (wrap64 (Int.tmod u1 3 + Int.tmod v1 3)) 3 != 0) = false := bne_eq_false_iff_eq.mpr c6
                      clear c6
                      by_cases c7 : Int.tmod u1 3 = 0
                      · simp only [if_pos c7] at er
                        have c7a : (Int.tmod u1 3 == 0) = true := beq_iff_eq.mpr c7
                        have c7b : (Int.tmod u1 3 != 0) = false := bne_eq_false_iff_eq.mpr c7
                        clear c7
                        by_cases c8 : Int.tmod v1 3 = 0
                        · have c8a : (Int.tmod v1 3 == 0) = true := beq_iff_eq.mpr c8
                          have c8b : (Int.tmod v1 3 != 0) = false := bne_eq_false_iff_eq.mpr c8
                          simp only [c8, decide_true] at er
                          clear c8
                          try simp only [if_true] at er
                          subst er
                          go_wp2
                          go_ret
                          exact ⟨rfl, by repeat (first | (with_reducible first | exact HB.out | apply below_alloc | apply pw_below_drewN | apply below_drew1) | exact HB.out)⟩
                        · have c8a : (Int.tmod v1 3 == 0) = false := beq_eq_false_iff_ne.mpr c8
                          have c8b : (Int.tmod v1 3 != 0) = true := bne_iff_ne.mpr c8
                          simp only [c8, decide_false] at er
                          clear c8
                          try simp only [Bool.false_eq_true, if_false] at er
                          have HF := Aside0.mk er
                          clear er
                          go_wp2
                          go_roundw
                          case rel => exact ⟨x - 1, rfl, by omega, by omega, ⟨by rw [show (x - 1 + 1).toNat = x.toNat by omega]; exact HF.out⟩, ⟨(by repeat (first | refine blk_alloc ?_ _ | exact HC.out))⟩, ⟨by repeat (first | (with_reducible first | exact HB.out | apply below_alloc | apply pw_below_drewN | apply below_drew1) | exact HB.out)⟩⟩
                          case measure =>
                            simp [intOf]
                            omega
                      · simp only [if_neg c7] at er
                        have c7a : (Int.tmod u1 3 == 0) = false := beq_eq_false_iff_ne.mpr c7
                        have c7b : (Int.tmod u1 3 != 0) = true := bne_iff_ne.mpr c7
                        clear c7
                        try simp only [Bool.false_eq_true, if_false] at er
                        have HF := Aside0.mk er
                        clear er
                        go_wp2
                        go_roundw
                        case rel => exact ⟨x - 1, rfl, by omega, by omega, ⟨by rw [show (x - 1 + 1).toNat = x.toNat by omega]; exact HF.out⟩, ⟨(by repeat (first | refine blk_alloc ?_ _ | exact HC.out))⟩, ⟨by repeat (first | (with_reducible first | exact HB.out | apply below_alloc | apply pw_below_drewN | apply below_drew1) | exact HB.out)⟩⟩
                        case measure =>
                          simp [intOf]
                          omega
                    · simp only [if_neg c6] at er
                      have c6a : (Int.tmod (wrap64 (Int.tmod u1 3 + Int.tmod v1 3)) 3 == 0) = false := beq_eq_false_iff_ne.mpr c6
                      have c6b : (Int.tmod (wrap64 (Int.tmod u1 3 + Int.tmod v1 3)) 3 != 0) = true := bne_iff_ne.mpr c6
                      clear c6
                      try simp only [if_true] at er
                      subst er
                      go_wp2
                      go_ret
                      exact ⟨rfl, by repeat (first | (with_reducible first | exact HB.out | apply below_alloc | apply pw_below_drewN | apply below_drew1) | exact HB.out)⟩
                  · obtain rfl : v3 = false := by simpa using c9
                    simp only [Bool.false_eq_true, if_false, reduceIte] at er
                    try simp only [if_true] at er
                    subst er
                    go_wp2
                    go_ret
                    exact ⟨rfl, by repeat (first | (with_reducible first | exact HB.out | apply below_alloc | apply pw_below_drewN | apply below_drew1) | exact HB.out)⟩
                · obtain rfl : v2 = false := by simpa using c5
                  simp only [Bool.false_eq_true, if_false, reduceIte] at er
                  try simp only [if_true] at er
                  subst er
                  go_wp2
                  go_ret
                  exact ⟨rfl, by repeat (first | (with_reducible first | exact HB.out | apply below_alloc | apply pw_below_drewN | apply below_drew1) | exact HB.out)⟩
          · simp only [if_neg c3] at er
            have c3a : (u0 == v0) = false := beq_eq_false_iff_ne.mpr c3
            have c3b : (u0 != v0) = true := bne_iff_ne.mpr c3
            clear c3
            try simp only [Bool.false_eq_true, if_false] at er
            have HF := Aside0.mk er
            clear er
            go_wp2
            go_roundw
            case rel => exact ⟨x - 1, rfl, by omega, by omega, ⟨by rw [show (x - 1 + 1).toNat = x.toNat by omega]; exact HF.out⟩, ⟨(by repeat (first | refine blk_alloc ?_ _ | exact HC.out))⟩, ⟨by repeat (first | (with_reducible first | exact HB.out | apply below_alloc | apply pw_below_drewN | apply below_drew1) | exact HB.out)⟩⟩
            case measure =>
              simp [intOf]
              omega
        · obtain rfl : u2 = false := by simpa using c2
          simp only [Bool.false_eq_true, if_false, reduceIte] at er
          try simp only [Bool.false_eq_true, if_false] at er
          have HF := Aside0.mk er
          clear er
          go_wp2
          go_roundw
          case rel => exact ⟨x - 1, rfl, by omega, by omega, ⟨by rw [show (x - 1 + 1).toNat = x.toNat by omega]; exact HF.out⟩, ⟨(by repeat (first | refine blk_alloc ?_ _ | exact HC.out))⟩, ⟨by repeat (first | (with_reducible first | exact HB.out | apply below_alloc | apply pw_below_drewN | apply below_drew1) | exact HB.out)⟩⟩
          case measure =>
            simp [intOf]
            omega
    · obtain rfl : x = -1 := by omega
      have er := HF.out
      rw [show ((-1 : Int) + 1).toNat = 0 from rfl, rfind] at er
      subst er
      go_wp2
      go_ret
      exact ⟨rfl, HB.out⟩
def rmO (L : List Int) (x y : Int) (O : List Bool) (j : Int) : List Bool := O.set j.toNat (if rdOf false O j = true then true else if x < j then (if j < y then true else rd L j == 0) else rd L j == 0)
def rmarkF (L : List Int) (x y : Int) : Nat → List Bool → Int → List Bool
  | 0, O, _ => O
  | d + 1, O, j => rmarkF L x y d (rmO L x y O j) (j + 1)
def rpairL (left : List Int) (x y : Int) : List Int := stepL (stepL left x (numF (strongF left x y))) y (numF (strongF left x y))
def rpairO (left : List Int) (out : List Bool) (x y : Int) : List Bool := rmarkF (rpairL left x y) x y (y + 1 - x).toNat out x
set_option maxHeartbeats 8000000 in
set_option maxRecDepth 100000 in
theorem rpair.calls (b0 m gl gO n c1 c2 c3 : Nat) (AL : Option Addr) (left : List Int) (out : List Bool) (x y : Int) (w : World)
  (hb0 : b0 ≤ w.heap.size) (hs : Rst b0 w m gl gO AL n c1 c2 c3 left out)
  (x0 : 0 ≤ x) (x1 : x < y) (y1 : y < n) (hn : n ≤ 1099511627776) :
    Calls Try.prog 18 #[.pointer (some ⟨m, 0, none⟩), .int .i64 x, .int .i64 y] w fun e w' => e = .returned (.agg #[.int .i64 x, .int .i64 y, .bool (strongF left x y)]) ∧
      Below b0 w w' ∧ Kept w w' (fun k => k = gl ∨ k = gO) ∧ Rst b0 w' m gl gO AL n c1 c2 c3 (rpairL left x y) (rpairO left out x y) := by
  have hu34 := Try.underlying34
  have hm1 := hs.m1
  obtain ⟨hmlt, hllt, holt, hbl, hbo⟩ := hs.lts
  have HS := Aside0.mk hs
  obtain ⟨cx, fx⟩ := hs.cl x x0 (by omega)
  obtain ⟨cy, fy⟩ := hs.cl y (by omega) y1
  have dx1 : decide (x < (n : Int)) = true := decide_eq_true (by omega)
  have dy1 : decide (y < (n : Int)) = true := decide_eq_true y1
  have dx0 : decide (0 ≤ x) = true := decide_eq_true x0
  have dy0 : decide (0 ≤ y) = true := decide_eq_true (by omega)
  clear hs
  by_cases c2' : rd left x ≥ 2
  · have t1 : decide (2 ≤ rd left x) = true := decide_eq_true c2'
    by_cases c3' : rd left y ≥ 2
    · have t2 : decide (2 ≤ rd left y) = true := decide_eq_true c3'
      have es : strongF left x y = true := by unfold strongF; simp [c2', c3']
      have HLf : Aside0 (stepL (stepL left x 2) y 2 = rpairL left x y) := ⟨by unfold rpairL numF; rw [es]; rfl⟩
      rw [es]
      clear es
      go_enter Try.func18, Try.ntmps18
      go_wp2
      have HB1 := Aside0.mk (below_alloc (Below.refl w.heap.size w) (.cells #[.int .i64 0, .int .i64 0, .bool false] 34))
      have HR1 := Aside0.mk (blk_new w (.cells #[.int .i64 0, .int .i64 0, .bool false] 34 (0, 0)))
      have HS1 := Aside0.mk (HS.out.below HB1.out)
      obtain ⟨W1, hW1⟩ : ∃ W1, W1 = w.alloc (.cells #[.int .i64 0, .int .i64 0, .bool false] 34) := ⟨_, rfl⟩
      rw [← hW1] at HB1 HR1 HS1 ⊢
      have HK1 : Aside0 (Kept w W1 (fun k => k = gl ∨ k = gO)) := ⟨Kept.of_below HB1.out _⟩
      have HB1 := Aside0.mk (HB1.out.mono hb0)
      clear hW1 hm1 cx fx cy fy HS t1 t2
      have hm1 := HS1.out.m1
      obtain ⟨ck, fk⟩ := HS1.out.cl x (by omega) (by omega)
      have hl1 := HS1.out.lts
      go_region
      all_goals go_wp2
      have HS2 : Aside0 (Rst b0 ((W1.setCell ⟨gl, (x).toNat, none⟩ (.int .i64 (wrap64 (rd left x - 2)))).drew) m gl gO AL n c1 c2 c3 (stepL left x 2) out) := ⟨(HS1.out.putL x (wrap64 (rd left x - 2))).below (Below.refl _ _).drew⟩
      have HR2 := Aside0.mk (blk_drew (blk_far HR1.out (p := ⟨gl, (x).toNat, none⟩) (by show w.heap.size ≠ gl; omega) (.int .i64 (wrap64 (rd left x - 2)))))
      have HB2 := Aside0.mk (HB1.out.setCell (p := ⟨gl, (x).toNat, none⟩) (by show b0 ≤ gl; omega) (.int .i64 (wrap64 (rd left x - 2)))).drew
      have HK2 : Aside0 (Kept w (W1.setCell ⟨gl, (x).toNat, none⟩ (.int .i64 (wrap64 (rd left x - 2)))).drew (fun k => k = gl ∨ k = gO)) := ⟨HK1.out.setCell (p := ⟨gl, (x).toNat, none⟩) (.inl (.inl rfl)) (.int .i64 (wrap64 (rd left x - 2)))⟩
      obtain ⟨W2, hW2⟩ : ∃ W, W = (W1.setCell ⟨gl, (x).toNat, none⟩ (.int .i64 (wrap64 (rd left x - 2)))).drew := ⟨_, rfl⟩
      rw [← hW2] at HS2 HR2 HB2 HK2 ⊢
      clear hW2 hm1 ck fk HS1 HR1 HB1 HK1
      have hm1 := HS2.out.m1
      obtain ⟨ck, fk⟩ := HS2.out.cl y (by omega) (by omega)
      have hl2 := HS2.out.lts
      go_region
      all_goals go_wp2
      have HS3 : Aside0 (Rst b0 ((W2.setCell ⟨gl, (y).toNat, none⟩ (.int .i64 (wrap64 (rd (stepL left x 2) y - 2)))).drew) m gl gO AL n c1 c2 c3 (stepL (stepL left x 2) y 2) out) := ⟨(HS2.out.putL y (wrap64 (rd (stepL left x 2) y - 2))).below (Below.refl _ _).drew⟩
      have HR3 := Aside0.mk (blk_drew (blk_far HR2.out (p := ⟨gl, (y).toNat, none⟩) (by show w.heap.size ≠ gl; omega) (.int .i64 (wrap64 (rd (stepL left x 2) y - 2)))))
      have HB3 := Aside0.mk (HB2.out.setCell (p := ⟨gl, (y).toNat, none⟩) (by show b0 ≤ gl; omega) (.int .i64 (wrap64 (rd (stepL left x 2) y - 2)))).drew
      have HK3 : Aside0 (Kept w (W2.setCell ⟨gl, (y).toNat, none⟩ (.int .i64 (wrap64 (rd (stepL left x 2) y - 2)))).drew (fun k => k = gl ∨ k = gO)) := ⟨HK2.out.setCell (p := ⟨gl, (y).toNat, none⟩) (.inl (.inl rfl)) (.int .i64 (wrap64 (rd (stepL left x 2) y - 2)))⟩
      obtain ⟨W3, hW3⟩ : ∃ W, W = (W2.setCell ⟨gl, (y).toNat, none⟩ (.int .i64 (wrap64 (rd (stepL left x 2) y - 2)))).drew := ⟨_, rfl⟩
      rw [← hW3] at HS3 HR3 HB3 HK3 ⊢
      clear hW3 hm1 ck fk HS2 HR2 HB2 HK2
      rw [HLf.out] at HS3
      obtain ⟨L3, hL3⟩ : ∃ L, L = rpairL left x y := ⟨_, rfl⟩
      have HO : Aside0 (rmarkF L3 x y (y + 1 - x).toNat out x = rpairO left out x y) := ⟨by rw [hL3]; rfl⟩
      rw [← hL3] at HS3
      have HL3 := Aside0.mk hL3
      clear hL3 HLf
      go_loopw [8] (fun v wr => ∃ (k : Int) (O : List Bool), v = .int .i64 k ∧ x ≤ k ∧ k ≤ y + 1 ∧ Aside0 (rmarkF L3 x y (y + 1 - k).toNat O k = rpairO left out x y) ∧ Aside0 (Rst b0 wr m gl gO AL n c1 c2 c3 L3 O) ∧
          Aside0 (wr.heap[w.heap.size]? = some (.cells #[.int .i64 0, .int .i64 0, .bool false] 34 (0, 0))) ∧ Aside0 (Below b0 w wr) ∧ Aside0 (Kept w wr (fun k => k = gl ∨ k = gO))) (fun v _ => (y + 1 - intOf v).toNat)
      case atStart => exact ⟨x, out, rfl, by omega, by omega, HO, HS3, HR3, HB3, HK3⟩
      case round =>
        clear HO HS3 HR3 HB3 HK3
        obtain ⟨k, O, rfl, hk1, hk2, HO, HS, HR, HB, HK⟩ := hrel
        by_cases hlt : k ≤ y
        · obtain ⟨ck, fk⟩ := HS.out.co k (by omega) (by omega)
          obtain ⟨cl, _⟩ := HS.out.cl k (by omega) (by omega)
          have hm1 := HS.out.m1
          have hm2 := HS.out.m2
          have dk1 : decide (k < (n : Int)) = true := decide_eq_true (by omega)
          have dk0 : decide (0 ≤ k) = true := decide_eq_true (by omega)
          have dlt : decide (k ≤ y) = true := decide_eq_true hlt
          have hol := HS.out.lts
          have hRlt := blk_lt HR.out
          have HO2 : Aside0 (rmarkF L3 x y (y + 1 - (k + 1)).toNat (rmO L3 x y O k) (k + 1) = rpairO left out x y) := ⟨by
            rw [← HO.out]
            have e : (y + 1 - k).toNat = (y + 1 - (k + 1)).toNat + 1 := by omega
            rw [e, rmarkF]⟩
          unfold rmO at HO2
          obtain ⟨o, eo⟩ : ∃ u, u = rdOf false O k := ⟨_, rfl⟩
          obtain ⟨t, et⟩ : ∃ u, u = rd L3 k := ⟨_, rfl⟩
          rw [← eo] at ck HO2
          rw [← et] at cl HO2
          clear eo et HO
          by_cases co : o = true
          · subst co
            have HO2 := Aside0.mk HO2.out
            simp only [if_true] at HO2
            go_wp2
            go_region
            all_goals go_wp2
            go_roundw
            case rel => exact ⟨k + 1, _, rfl, by omega, by omega, HO2, ⟨(HS.out.putO k _).below (Below.refl _ _).drew⟩, ⟨blk_drew (blk_far HR.out (p := ⟨gO, k.toNat, none⟩) (by show w.heap.size ≠ gO; omega) _)⟩, ⟨(HB.out.setCell (p := ⟨gO, k.toNat, none⟩) (by show b0 ≤ gO; omega) _).drew⟩, ⟨HK.out.setCell (p := ⟨gO, k.toNat, none⟩) (.inl (.inr rfl)) _⟩⟩
            case measure =>
              simp [intOf]
              omega
          · obtain rfl : o = false := by simpa using co
            simp only [Bool.false_eq_true, if_false] at HO2
            by_cases cx : x < k
            · have cx' : decide (x < k) = true := decide_eq_true cx
              simp only [if_pos cx] at HO2
              clear cx
              by_cases cy : k < y
              · have cy' : decide (k < y) = true := decide_eq_true cy
                simp only [if_pos cy] at HO2
                clear cy
                go_wp2
                go_region
                all_goals go_wp2
                go_roundw
                case rel => exact ⟨k + 1, _, rfl, by omega, by omega, HO2, ⟨(HS.out.putO k _).below (Below.refl _ _).drew⟩, ⟨blk_drew (blk_far HR.out (p := ⟨gO, k.toNat, none⟩) (by show w.heap.size ≠ gO; omega) _)⟩, ⟨(HB.out.setCell (p := ⟨gO, k.toNat, none⟩) (by show b0 ≤ gO; omega) _).drew⟩, ⟨HK.out.setCell (p := ⟨gO, k.toNat, none⟩) (.inl (.inr rfl)) _⟩⟩
                case measure =>
                  simp [intOf]
                  omega
              · have cy' : decide (k < y) = false := decide_eq_false cy
                simp only [if_neg cy] at HO2
                clear cy
                go_wp2
                go_region
                all_goals go_wp2
                go_roundw
                case rel => exact ⟨k + 1, _, rfl, by omega, by omega, HO2, ⟨(HS.out.putO k _).below (Below.refl _ _).drew⟩, ⟨blk_drew (blk_far HR.out (p := ⟨gO, k.toNat, none⟩) (by show w.heap.size ≠ gO; omega) _)⟩, ⟨(HB.out.setCell (p := ⟨gO, k.toNat, none⟩) (by show b0 ≤ gO; omega) _).drew⟩, ⟨HK.out.setCell (p := ⟨gO, k.toNat, none⟩) (.inl (.inr rfl)) _⟩⟩
                case measure =>
                  simp [intOf]
                  omega
            · have cx' : decide (x < k) = false := decide_eq_false cx
              simp only [if_neg cx] at HO2
              clear cx
              go_wp2
              go_region
              all_goals go_wp2
              go_roundw
              case rel => exact ⟨k + 1, _, rfl, by omega, by omega, HO2, ⟨(HS.out.putO k _).below (Below.refl _ _).drew⟩, ⟨blk_drew (blk_far HR.out (p := ⟨gO, k.toNat, none⟩) (by show w.heap.size ≠ gO; omega) _)⟩, ⟨(HB.out.setCell (p := ⟨gO, k.toNat, none⟩) (by show b0 ≤ gO; omega) _).drew⟩, ⟨HK.out.setCell (p := ⟨gO, k.toNat, none⟩) (.inl (.inr rfl)) _⟩⟩
              case measure =>
                simp [intOf]
                omega
        · obtain rfl : k = y + 1 := by omega
          have dlt : decide (y + 1 ≤ y) = false := decide_eq_false (by omega)
          have hO : O = rpairO left out x y := by
            have := HO.out
            rw [show (y + 1 - (y + 1)).toNat = 0 by omega, rmarkF] at this
            exact this
          have hS := HS.out
          rw [hO, HL3.out] at hS
          clear hO HO
          have hr0 : wr.cell? ⟨w.heap.size, 0, none⟩ = some (.int .i64 0) := blk_cell HR.out 0
          have hr1 : wr.cell? ⟨w.heap.size, 1, none⟩ = some (.int .i64 0) := blk_cell HR.out 1
          have hr2 : wr.cell? ⟨w.heap.size, 2, none⟩ = some (.bool false) := blk_cell HR.out 2
          have hrf0 := blk_frozen HR.out 0
          have hrf1 := blk_frozen HR.out 1
          have hrf2 := blk_frozen HR.out 2
          have HSx := Aside0.mk hS
          clear hS
          go_wp2
          have hS := HSx.out
          refine bodyPost_ret (results_cell_row rfl _ _ w.heap.size 34 #[.int .i64 x, .int .i64 y, .bool true] (0, 0) _ rfl (blk_put (cs := #[.int .i64 x, .int .i64 y, .bool false]) (blk_put (cs := #[.int .i64 x, .int .i64 0, .bool false]) (blk_put HR.out 0 _ rfl) 1 _ rfl) 2 _ rfl) Try.underlying34 rfl (by kernel_rfl)) rfl ⟨rfl, ((HB.out.setCell (p := ⟨w.heap.size, 0, none⟩) hb0 _).setCell (p := ⟨w.heap.size, 1, none⟩) hb0 _).setCell (p := ⟨w.heap.size, 2, none⟩) hb0 _, ((HK.out.setCell (p := ⟨w.heap.size, 0, none⟩) (.inr (Nat.le_refl _)) _).setCell (p := ⟨w.heap.size, 1, none⟩) (.inr (Nat.le_refl _)) _).setCell (p := ⟨w.heap.size, 2, none⟩) (.inr (Nat.le_refl _)) _, ?_⟩
          have hl3 := hS.lts
          exact hS.kept (S := fun k => k = w.heap.size) ((((Kept.refl _ (fun k => k = w.heap.size)).setCell (p := ⟨w.heap.size, 0, none⟩) (.inl rfl) _).setCell (p := ⟨w.heap.size, 1, none⟩) (.inl rfl) _).setCell (p := ⟨w.heap.size, 2, none⟩) (.inl rfl) _) (by omega) (by omega) (by omega)
    · have t2 : decide (2 ≤ rd left y) = false := decide_eq_false c3'
      have es : strongF left x y = false := by unfold strongF; simp [c2', c3']
      have HLf : Aside0 (stepL (stepL left x 1) y 1 = rpairL left x y) := ⟨by unfold rpairL numF; rw [es]; rfl⟩
      rw [es]
      clear es
      go_enter Try.func18, Try.ntmps18
      go_wp2
      have HB1 := Aside0.mk (below_alloc (Below.refl w.heap.size w) (.cells #[.int .i64 0, .int .i64 0, .bool false] 34))
      have HR1 := Aside0.mk (blk_new w (.cells #[.int .i64 0, .int .i64 0, .bool false] 34 (0, 0)))
      have HS1 := Aside0.mk (HS.out.below HB1.out)
      obtain ⟨W1, hW1⟩ : ∃ W1, W1 = w.alloc (.cells #[.int .i64 0, .int .i64 0, .bool false] 34) := ⟨_, rfl⟩
      rw [← hW1] at HB1 HR1 HS1 ⊢
      have HK1 : Aside0 (Kept w W1 (fun k => k = gl ∨ k = gO)) := ⟨Kept.of_below HB1.out _⟩
      have HB1 := Aside0.mk (HB1.out.mono hb0)
      clear hW1 hm1 cx fx cy fy HS t1 t2
      have hm1 := HS1.out.m1
      obtain ⟨ck, fk⟩ := HS1.out.cl x (by omega) (by omega)
      have hl1 := HS1.out.lts
      go_region
      all_goals go_wp2
      have HS2 : Aside0 (Rst b0 ((W1.setCell ⟨gl, (x).toNat, none⟩ (.int .i64 (wrap64 (rd left x - 1)))).drew) m gl gO AL n c1 c2 c3 (stepL left x 1) out) := ⟨(HS1.out.putL x (wrap64 (rd left x - 1))).below (Below.refl _ _).drew⟩
      have HR2 := Aside0.mk (blk_drew (blk_far HR1.out (p := ⟨gl, (x).toNat, none⟩) (by show w.heap.size ≠ gl; omega) (.int .i64 (wrap64 (rd left x - 1)))))
      have HB2 := Aside0.mk (HB1.out.setCell (p := ⟨gl, (x).toNat, none⟩) (by show b0 ≤ gl; omega) (.int .i64 (wrap64 (rd left x - 1)))).drew
      have HK2 : Aside0 (Kept w (W1.setCell ⟨gl, (x).toNat, none⟩ (.int .i64 (wrap64 (rd left x - 1)))).drew (fun k => k = gl ∨ k = gO)) := ⟨HK1.out.setCell (p := ⟨gl, (x).toNat, none⟩) (.inl (.inl rfl)) (.int .i64 (wrap64 (rd left x - 1)))⟩
      obtain ⟨W2, hW2⟩ : ∃ W, W = (W1.setCell ⟨gl, (x).toNat, none⟩ (.int .i64 (wrap64 (rd left x - 1)))).drew := ⟨_, rfl⟩
      rw [← hW2] at HS2 HR2 HB2 HK2 ⊢
      clear hW2 hm1 ck fk HS1 HR1 HB1 HK1
      have hm1 := HS2.out.m1
      obtain ⟨ck, fk⟩ := HS2.out.cl y (by omega) (by omega)
      have hl2 := HS2.out.lts
      go_region
      all_goals go_wp2
      have HS3 : Aside0 (Rst b0 ((W2.setCell ⟨gl, (y).toNat, none⟩ (.int .i64 (wrap64 (rd (stepL left x 1) y - 1)))).drew) m gl gO AL n c1 c2 c3 (stepL (stepL left x 1) y 1) out) := ⟨(HS2.out.putL y (wrap64 (rd (stepL left x 1) y - 1))).below (Below.refl _ _).drew⟩
      have HR3 := Aside0.mk (blk_drew (blk_far HR2.out (p := ⟨gl, (y).toNat, none⟩) (by show w.heap.size ≠ gl; omega) (.int .i64 (wrap64 (rd (stepL left x 1) y - 1)))))
      have HB3 := Aside0.mk (HB2.out.setCell (p := ⟨gl, (y).toNat, none⟩) (by show b0 ≤ gl; omega) (.int .i64 (wrap64 (rd (stepL left x 1) y - 1)))).drew
      have HK3 : Aside0 (Kept w (W2.setCell ⟨gl, (y).toNat, none⟩ (.int .i64 (wrap64 (rd (stepL left x 1) y - 1)))).drew (fun k => k = gl ∨ k = gO)) := ⟨HK2.out.setCell (p := ⟨gl, (y).toNat, none⟩) (.inl (.inl rfl)) (.int .i64 (wrap64 (rd (stepL left x 1) y - 1)))⟩
      obtain ⟨W3, hW3⟩ : ∃ W, W = (W2.setCell ⟨gl, (y).toNat, none⟩ (.int .i64 (wrap64 (rd (stepL left x 1) y - 1)))).drew := ⟨_, rfl⟩
      rw [← hW3] at HS3 HR3 HB3 HK3 ⊢
      clear hW3 hm1 ck fk HS2 HR2 HB2 HK2
      rw [HLf.out] at HS3
      obtain ⟨L3, hL3⟩ : ∃ L, L = rpairL left x y := ⟨_, rfl⟩
      have HO : Aside0 (rmarkF L3 x y (y + 1 - x).toNat out x = rpairO left out x y) := ⟨by rw [hL3]; rfl⟩
      rw [← hL3] at HS3
      have HL3 := Aside0.mk hL3
      clear hL3 HLf
      go_loopw [8] (fun v wr => ∃ (k : Int) (O : List Bool), v = .int .i64 k ∧ x ≤ k ∧ k ≤ y + 1 ∧ Aside0 (rmarkF L3 x y (y + 1 - k).toNat O k = rpairO left out x y) ∧ Aside0 (Rst b0 wr m gl gO AL n c1 c2 c3 L3 O) ∧
          Aside0 (wr.heap[w.heap.size]? = some (.cells #[.int .i64 0, .int .i64 0, .bool false] 34 (0, 0))) ∧ Aside0 (Below b0 w wr) ∧ Aside0 (Kept w wr (fun k => k = gl ∨ k = gO))) (fun v _ => (y + 1 - intOf v).toNat)
      case atStart => exact ⟨x, out, rfl, by omega, by omega, HO, HS3, HR3, HB3, HK3⟩
      case round =>
        clear HO HS3 HR3 HB3 HK3
        obtain ⟨k, O, rfl, hk1, hk2, HO, HS, HR, HB, HK⟩ := hrel
        by_cases hlt : k ≤ y
        · obtain ⟨ck, fk⟩ := HS.out.co k (by omega) (by omega)
          obtain ⟨cl, _⟩ := HS.out.cl k (by omega) (by omega)
          have hm1 := HS.out.m1
          have hm2 := HS.out.m2
          have dk1 : decide (k < (n : Int)) = true := decide_eq_true (by omega)
          have dk0 : decide (0 ≤ k) = true := decide_eq_true (by omega)
          have dlt : decide (k ≤ y) = true := decide_eq_true hlt
          have hol := HS.out.lts
          have hRlt := blk_lt HR.out
          have HO2 : Aside0 (rmarkF L3 x y (y + 1 - (k + 1)).toNat (rmO L3 x y O k) (k + 1) = rpairO left out x y) := ⟨by
            rw [← HO.out]
            have e : (y + 1 - k).toNat = (y + 1 - (k + 1)).toNat + 1 := by omega
            rw [e, rmarkF]⟩
          unfold rmO at HO2
          obtain ⟨o, eo⟩ : ∃ u, u = rdOf false O k := ⟨_, rfl⟩
          obtain ⟨t, et⟩ : ∃ u, u = rd L3 k := ⟨_, rfl⟩
          rw [← eo] at ck HO2
          rw [← et] at cl HO2
          clear eo et HO
          by_cases co : o = true
          · subst co
            have HO2 := Aside0.mk HO2.out
            simp only [if_true] at HO2
            go_wp2
            go_region
            all_goals go_wp2
            go_roundw
            case rel => exact ⟨k + 1, _, rfl, by omega, by omega, HO2, ⟨(HS.out.putO k _).below (Below.refl _ _).drew⟩, ⟨blk_drew (blk_far HR.out (p := ⟨gO, k.toNat, none⟩) (by show w.heap.size ≠ gO; omega) _)⟩, ⟨(HB.out.setCell (p := ⟨gO, k.toNat, none⟩) (by show b0 ≤ gO; omega) _).drew⟩, ⟨HK.out.setCell (p := ⟨gO, k.toNat, none⟩) (.inl (.inr rfl)) _⟩⟩
            case measure =>
              simp [intOf]
              omega
          · obtain rfl : o = false := by simpa using co
            simp only [Bool.false_eq_true, if_false] at HO2
            by_cases cx : x < k
            · have cx' : decide (x < k) = true := decide_eq_true cx
              simp only [if_pos cx] at HO2
              clear cx
              by_cases cy : k < y
              · have cy' : decide (k < y) = true := decide_eq_true cy
                simp only [if_pos cy] at HO2
                clear cy
                go_wp2
                go_region
                all_goals go_wp2
                go_roundw
                case rel => exact ⟨k + 1, _, rfl, by omega, by omega, HO2, ⟨(HS.out.putO k _).below (Below.refl _ _).drew⟩, ⟨blk_drew (blk_far HR.out (p := ⟨gO, k.toNat, none⟩) (by show w.heap.size ≠ gO; omega) _)⟩, ⟨(HB.out.setCell (p := ⟨gO, k.toNat, none⟩) (by show b0 ≤ gO; omega) _).drew⟩, ⟨HK.out.setCell (p := ⟨gO, k.toNat, none⟩) (.inl (.inr rfl)) _⟩⟩
                case measure =>
                  simp [intOf]
                  omega
              · have cy' : decide (k < y) = false := decide_eq_false cy
                simp only [if_neg cy] at HO2
                clear cy
                go_wp2
                go_region
                all_goals go_wp2
                go_roundw
                case rel => exact ⟨k + 1, _, rfl, by omega, by omega, HO2, ⟨(HS.out.putO k _).below (Below.refl _ _).drew⟩, ⟨blk_drew (blk_far HR.out (p := ⟨gO, k.toNat, none⟩) (by show w.heap.size ≠ gO; omega) _)⟩, ⟨(HB.out.setCell (p := ⟨gO, k.toNat, none⟩) (by show b0 ≤ gO; omega) _).drew⟩, ⟨HK.out.setCell (p := ⟨gO, k.toNat, none⟩) (.inl (.inr rfl)) _⟩⟩
                case measure =>
                  simp [intOf]
                  omega
            · have cx' : decide (x < k) = false := decide_eq_false cx
              simp only [if_neg cx] at HO2
              clear cx
              go_wp2
              go_region
              all_goals go_wp2
              go_roundw
              case rel => exact ⟨k + 1, _, rfl, by omega, by omega, HO2, ⟨(HS.out.putO k _).below (Below.refl _ _).drew⟩, ⟨blk_drew (blk_far HR.out (p := ⟨gO, k.toNat, none⟩) (by show w.heap.size ≠ gO; omega) _)⟩, ⟨(HB.out.setCell (p := ⟨gO, k.toNat, none⟩) (by show b0 ≤ gO; omega) _).drew⟩, ⟨HK.out.setCell (p := ⟨gO, k.toNat, none⟩) (.inl (.inr rfl)) _⟩⟩
              case measure =>
                simp [intOf]
                omega
        · obtain rfl : k = y + 1 := by omega
          have dlt : decide (y + 1 ≤ y) = false := decide_eq_false (by omega)
          have hO : O = rpairO left out x y := by
            have := HO.out
            rw [show (y + 1 - (y + 1)).toNat = 0 by omega, rmarkF] at this
            exact this
          have hS := HS.out
          rw [hO, HL3.out] at hS
          clear hO HO
          have hr0 : wr.cell? ⟨w.heap.size, 0, none⟩ = some (.int .i64 0) := blk_cell HR.out 0
          have hr1 : wr.cell? ⟨w.heap.size, 1, none⟩ = some (.int .i64 0) := blk_cell HR.out 1
          have hr2 : wr.cell? ⟨w.heap.size, 2, none⟩ = some (.bool false) := blk_cell HR.out 2
          have hrf0 := blk_frozen HR.out 0
          have hrf1 := blk_frozen HR.out 1
          have hrf2 := blk_frozen HR.out 2
          have HSx := Aside0.mk hS
          clear hS
          go_wp2
          have hS := HSx.out
          refine bodyPost_ret (results_cell_row rfl _ _ w.heap.size 34 #[.int .i64 x, .int .i64 y, .bool false] (0, 0) _ rfl (blk_put (cs := #[.int .i64 x, .int .i64 y, .bool false]) (blk_put (cs := #[.int .i64 x, .int .i64 0, .bool false]) (blk_put HR.out 0 _ rfl) 1 _ rfl) 2 _ rfl) Try.underlying34 rfl (by kernel_rfl)) rfl ⟨rfl, ((HB.out.setCell (p := ⟨w.heap.size, 0, none⟩) hb0 _).setCell (p := ⟨w.heap.size, 1, none⟩) hb0 _).setCell (p := ⟨w.heap.size, 2, none⟩) hb0 _, ((HK.out.setCell (p := ⟨w.heap.size, 0, none⟩) (.inr (Nat.le_refl _)) _).setCell (p := ⟨w.heap.size, 1, none⟩) (.inr (Nat.le_refl _)) _).setCell (p := ⟨w.heap.size, 2, none⟩) (.inr (Nat.le_refl _)) _, ?_⟩
          have hl3 := hS.lts
          exact hS.kept (S := fun k => k = w.heap.size) ((((Kept.refl _ (fun k => k = w.heap.size)).setCell (p := ⟨w.heap.size, 0, none⟩) (.inl rfl) _).setCell (p := ⟨w.heap.size, 1, none⟩) (.inl rfl) _).setCell (p := ⟨w.heap.size, 2, none⟩) (.inl rfl) _) (by omega) (by omega) (by omega)
  · have t1 : decide (2 ≤ rd left x) = false := decide_eq_false c2'
    have es : strongF left x y = false := by unfold strongF; simp [c2']
    have HLf : Aside0 (stepL (stepL left x 1) y 1 = rpairL left x y) := ⟨by unfold rpairL numF; rw [es]; rfl⟩
    rw [es]
    clear es
    go_enter Try.func18, Try.ntmps18
    go_wp2
    have HB1 := Aside0.mk (below_alloc (Below.refl w.heap.size w) (.cells #[.int .i64 0, .int .i64 0, .bool false] 34))
    have HR1 := Aside0.mk (blk_new w (.cells #[.int .i64 0, .int .i64 0, .bool false] 34 (0, 0)))
    have HS1 := Aside0.mk (HS.out.below HB1.out)
    obtain ⟨W1, hW1⟩ : ∃ W1, W1 = w.alloc (.cells #[.int .i64 0, .int .i64 0, .bool false] 34) := ⟨_, rfl⟩
    rw [← hW1] at HB1 HR1 HS1 ⊢
    have HK1 : Aside0 (Kept w W1 (fun k => k = gl ∨ k = gO)) := ⟨Kept.of_below HB1.out _⟩
    have HB1 := Aside0.mk (HB1.out.mono hb0)
    clear hW1 hm1 cx fx cy fy HS t1
    have hm1 := HS1.out.m1
    obtain ⟨ck, fk⟩ := HS1.out.cl x (by omega) (by omega)
    have hl1 := HS1.out.lts
    go_region
    all_goals go_wp2
    have HS2 : Aside0 (Rst b0 ((W1.setCell ⟨gl, (x).toNat, none⟩ (.int .i64 (wrap64 (rd left x - 1)))).drew) m gl gO AL n c1 c2 c3 (stepL left x 1) out) := ⟨(HS1.out.putL x (wrap64 (rd left x - 1))).below (Below.refl _ _).drew⟩
    have HR2 := Aside0.mk (blk_drew (blk_far HR1.out (p := ⟨gl, (x).toNat, none⟩) (by show w.heap.size ≠ gl; omega) (.int .i64 (wrap64 (rd left x - 1)))))
    have HB2 := Aside0.mk (HB1.out.setCell (p := ⟨gl, (x).toNat, none⟩) (by show b0 ≤ gl; omega) (.int .i64 (wrap64 (rd left x - 1)))).drew
    have HK2 : Aside0 (Kept w (W1.setCell ⟨gl, (x).toNat, none⟩ (.int .i64 (wrap64 (rd left x - 1)))).drew (fun k => k = gl ∨ k = gO)) := ⟨HK1.out.setCell (p := ⟨gl, (x).toNat, none⟩) (.inl (.inl rfl)) (.int .i64 (wrap64 (rd left x - 1)))⟩
    obtain ⟨W2, hW2⟩ : ∃ W, W = (W1.setCell ⟨gl, (x).toNat, none⟩ (.int .i64 (wrap64 (rd left x - 1)))).drew := ⟨_, rfl⟩
    rw [← hW2] at HS2 HR2 HB2 HK2 ⊢
    clear hW2 hm1 ck fk HS1 HR1 HB1 HK1
    have hm1 := HS2.out.m1
    obtain ⟨ck, fk⟩ := HS2.out.cl y (by omega) (by omega)
    have hl2 := HS2.out.lts
    go_region
    all_goals go_wp2
    have HS3 : Aside0 (Rst b0 ((W2.setCell ⟨gl, (y).toNat, none⟩ (.int .i64 (wrap64 (rd (stepL left x 1) y - 1)))).drew) m gl gO AL n c1 c2 c3 (stepL (stepL left x 1) y 1) out) := ⟨(HS2.out.putL y (wrap64 (rd (stepL left x 1) y - 1))).below (Below.refl _ _).drew⟩
    have HR3 := Aside0.mk (blk_drew (blk_far HR2.out (p := ⟨gl, (y).toNat, none⟩) (by show w.heap.size ≠ gl; omega) (.int .i64 (wrap64 (rd (stepL left x 1) y - 1)))))
    have HB3 := Aside0.mk (HB2.out.setCell (p := ⟨gl, (y).toNat, none⟩) (by show b0 ≤ gl; omega) (.int .i64 (wrap64 (rd (stepL left x 1) y - 1)))).drew
    have HK3 : Aside0 (Kept w (W2.setCell ⟨gl, (y).toNat, none⟩ (.int .i64 (wrap64 (rd (stepL left x 1) y - 1)))).drew (fun k => k = gl ∨ k = gO)) := ⟨HK2.out.setCell (p := ⟨gl, (y).toNat, none⟩) (.inl (.inl rfl)) (.int .i64 (wrap64 (rd (stepL left x 1) y - 1)))⟩
    obtain ⟨W3, hW3⟩ : ∃ W, W = (W2.setCell ⟨gl, (y).toNat, none⟩ (.int .i64 (wrap64 (rd (stepL left x 1) y - 1)))).drew := ⟨_, rfl⟩
    rw [← hW3] at HS3 HR3 HB3 HK3 ⊢
    clear hW3 hm1 ck fk HS2 HR2 HB2 HK2
    rw [HLf.out] at HS3
    obtain ⟨L3, hL3⟩ : ∃ L, L = rpairL left x y := ⟨_, rfl⟩
    have HO : Aside0 (rmarkF L3 x y (y + 1 - x).toNat out x = rpairO left out x y) := ⟨by rw [hL3]; rfl⟩
    rw [← hL3] at HS3
    have HL3 := Aside0.mk hL3
    clear hL3 HLf
    go_loopw [8] (fun v wr => ∃ (k : Int) (O : List Bool), v = .int .i64 k ∧ x ≤ k ∧ k ≤ y + 1 ∧ Aside0 (rmarkF L3 x y (y + 1 - k).toNat O k = rpairO left out x y) ∧ Aside0 (Rst b0 wr m gl gO AL n c1 c2 c3 L3 O) ∧
        Aside0 (wr.heap[w.heap.size]? = some (.cells #[.int .i64 0, .int .i64 0, .bool false] 34 (0, 0))) ∧ Aside0 (Below b0 w wr) ∧ Aside0 (Kept w wr (fun k => k = gl ∨ k = gO))) (fun v _ => (y + 1 - intOf v).toNat)
    case atStart => exact ⟨x, out, rfl, by omega, by omega, HO, HS3, HR3, HB3, HK3⟩
    case round =>
      clear HO HS3 HR3 HB3 HK3
      obtain ⟨k, O, rfl, hk1, hk2, HO, HS, HR, HB, HK⟩ := hrel
      by_cases hlt : k ≤ y
      · obtain ⟨ck, fk⟩ := HS.out.co k (by omega) (by omega)
        obtain ⟨cl, _⟩ := HS.out.cl k (by omega) (by omega)
        have hm1 := HS.out.m1
        have hm2 := HS.out.m2
        have dk1 : decide (k < (n : Int)) = true := decide_eq_true (by omega)
        have dk0 : decide (0 ≤ k) = true := decide_eq_true (by omega)
        have dlt : decide (k ≤ y) = true := decide_eq_true hlt
        have hol := HS.out.lts
        have hRlt := blk_lt HR.out
        have HO2 : Aside0 (rmarkF L3 x y (y + 1 - (k + 1)).toNat (rmO L3 x y O k) (k + 1) = rpairO left out x y) := ⟨by
          rw [← HO.out]
          have e : (y + 1 - k).toNat = (y + 1 - (k + 1)).toNat + 1 := by omega
          rw [e, rmarkF]⟩
        unfold rmO at HO2
        obtain ⟨o, eo⟩ : ∃ u, u = rdOf false O k := ⟨_, rfl⟩
        obtain ⟨t, et⟩ : ∃ u, u = rd L3 k := ⟨_, rfl⟩
        rw [← eo] at ck HO2
        rw [← et] at cl HO2
        clear eo et HO
        by_cases co : o = true
        · subst co
          have HO2 := Aside0.mk HO2.out
          simp only [if_true] at HO2
          go_wp2
          go_region
          all_goals go_wp2
          go_roundw
          case rel => exact ⟨k + 1, _, rfl, by omega, by omega, HO2, ⟨(HS.out.putO k _).below (Below.refl _ _).drew⟩, ⟨blk_drew (blk_far HR.out (p := ⟨gO, k.toNat, none⟩) (by show w.heap.size ≠ gO; omega) _)⟩, ⟨(HB.out.setCell (p := ⟨gO, k.toNat, none⟩) (by show b0 ≤ gO; omega) _).drew⟩, ⟨HK.out.setCell (p := ⟨gO, k.toNat, none⟩) (.inl (.inr rfl)) _⟩⟩
          case measure =>
            simp [intOf]
            omega
        · obtain rfl : o = false := by simpa using co
          simp only [Bool.false_eq_true, if_false] at HO2
          by_cases cx : x < k
          · have cx' : decide (x < k) = true := decide_eq_true cx
            simp only [if_pos cx] at HO2
            clear cx
            by_cases cy : k < y
            · have cy' : decide (k < y) = true := decide_eq_true cy
              simp only [if_pos cy] at HO2
              clear cy
              go_wp2
              go_region
              all_goals go_wp2
              go_roundw
              case rel => exact ⟨k + 1, _, rfl, by omega, by omega, HO2, ⟨(HS.out.putO k _).below (Below.refl _ _).drew⟩, ⟨blk_drew (blk_far HR.out (p := ⟨gO, k.toNat, none⟩) (by show w.heap.size ≠ gO; omega) _)⟩, ⟨(HB.out.setCell (p := ⟨gO, k.toNat, none⟩) (by show b0 ≤ gO; omega) _).drew⟩, ⟨HK.out.setCell (p := ⟨gO, k.toNat, none⟩) (.inl (.inr rfl)) _⟩⟩
              case measure =>
                simp [intOf]
                omega
            · have cy' : decide (k < y) = false := decide_eq_false cy
              simp only [if_neg cy] at HO2
              clear cy
              go_wp2
              go_region
              all_goals go_wp2
              go_roundw
              case rel => exact ⟨k + 1, _, rfl, by omega, by omega, HO2, ⟨(HS.out.putO k _).below (Below.refl _ _).drew⟩, ⟨blk_drew (blk_far HR.out (p := ⟨gO, k.toNat, none⟩) (by show w.heap.size ≠ gO; omega) _)⟩, ⟨(HB.out.setCell (p := ⟨gO, k.toNat, none⟩) (by show b0 ≤ gO; omega) _).drew⟩, ⟨HK.out.setCell (p := ⟨gO, k.toNat, none⟩) (.inl (.inr rfl)) _⟩⟩
              case measure =>
                simp [intOf]
                omega
          · have cx' : decide (x < k) = false := decide_eq_false cx
            simp only [if_neg cx] at HO2
            clear cx
            go_wp2
            go_region
            all_goals go_wp2
            go_roundw
            case rel => exact ⟨k + 1, _, rfl, by omega, by omega, HO2, ⟨(HS.out.putO k _).below (Below.refl _ _).drew⟩, ⟨blk_drew (blk_far HR.out (p := ⟨gO, k.toNat, none⟩) (by show w.heap.size ≠ gO; omega) _)⟩, ⟨(HB.out.setCell (p := ⟨gO, k.toNat, none⟩) (by show b0 ≤ gO; omega) _).drew⟩, ⟨HK.out.setCell (p := ⟨gO, k.toNat, none⟩) (.inl (.inr rfl)) _⟩⟩
            case measure =>
              simp [intOf]
              omega
      · obtain rfl : k = y + 1 := by omega
        have dlt : decide (y + 1 ≤ y) = false := decide_eq_false (by omega)
        have hO : O = rpairO left out x y := by
          have := HO.out
          rw [show (y + 1 - (y + 1)).toNat = 0 by omega, rmarkF] at this
          exact this
        have hS := HS.out
        rw [hO, HL3.out] at hS
        clear hO HO
        have hr0 : wr.cell? ⟨w.heap.size, 0, none⟩ = some (.int .i64 0) := blk_cell HR.out 0
        have hr1 : wr.cell? ⟨w.heap.size, 1, none⟩ = some (.int .i64 0) := blk_cell HR.out 1
        have hr2 : wr.cell? ⟨w.heap.size, 2, none⟩ = some (.bool false) := blk_cell HR.out 2
        have hrf0 := blk_frozen HR.out 0
        have hrf1 := blk_frozen HR.out 1
        have hrf2 := blk_frozen HR.out 2
        have HSx := Aside0.mk hS
        clear hS
        go_wp2
        have hS := HSx.out
        refine bodyPost_ret (results_cell_row rfl _ _ w.heap.size 34 #[.int .i64 x, .int .i64 y, .bool false] (0, 0) _ rfl (blk_put (cs := #[.int .i64 x, .int .i64 y, .bool false]) (blk_put (cs := #[.int .i64 x, .int .i64 0, .bool false]) (blk_put HR.out 0 _ rfl) 1 _ rfl) 2 _ rfl) Try.underlying34 rfl (by kernel_rfl)) rfl ⟨rfl, ((HB.out.setCell (p := ⟨w.heap.size, 0, none⟩) hb0 _).setCell (p := ⟨w.heap.size, 1, none⟩) hb0 _).setCell (p := ⟨w.heap.size, 2, none⟩) hb0 _, ((HK.out.setCell (p := ⟨w.heap.size, 0, none⟩) (.inr (Nat.le_refl _)) _).setCell (p := ⟨w.heap.size, 1, none⟩) (.inr (Nat.le_refl _)) _).setCell (p := ⟨w.heap.size, 2, none⟩) (.inr (Nat.le_refl _)) _, ?_⟩
        have hl3 := hS.lts
        exact hS.kept (S := fun k => k = w.heap.size) ((((Kept.refl _ (fun k => k = w.heap.size)).setCell (p := ⟨w.heap.size, 0, none⟩) (.inl rfl) _).setCell (p := ⟨w.heap.size, 1, none⟩) (.inl rfl) _).setCell (p := ⟨w.heap.size, 2, none⟩) (.inl rfl) _) (by omega) (by omega) (by omega)
def rubricatorref20_Match.init : Nat → List S26 → List Int → List Bool → Nat → List Int × List Bool
  | 0, _, L, O, _ => (L, O)
  | d + 1, l, L, O, i => rubricatorref20_Match.init d l (L.set i (mx 0 (rd_T26 l i).f1)) (O.set i (decide ((rd_T26 l i).f1 < 1))) (i + 1)
def rubricatorref20_Match.while_ : Nat → List S26 → List Int → List Bool → List S34 → Nat → Option (List Int × List Bool × List S34)
  | 0, _, _, _, _, _ => none
  | k + 1, l, L, O, ps, tt =>
    if rdOf false O (tt : Int) = true then some (L, O, ps)
    else if (rd_T26 l (tt : Int)).f3 = true then
      (if rfind l L O tt tt < 0 then some (L, O.set tt (!(rd_T26 l (tt : Int)).f2), ps)
       else if ps.length < 1000000000 then rubricatorref20_Match.while_ k l (rpairL L (rfind l L O tt tt) (tt : Int)) (rpairO L O (rfind l L O tt tt) (tt : Int)) (ps ++ [⟨rfind l L O tt tt, (tt : Int), strongF L (rfind l L O tt tt) (tt : Int)⟩]) tt
       else none)
    else some (L, O, ps)
def rubricatorref20_Match.all (k : Nat) : Nat → List S26 → List Int → List Bool → List S34 → Nat → Option (List S34)
  | 0, _, _, _, ps, _ => some ps
  | d + 1, l, L, O, ps, tt => (rubricatorref20_Match.while_ k l L O ps tt).bind fun t => rubricatorref20_Match.all k d l t.1 t.2.1 t.2.2 (tt + 1)
def rubricatorref20_Match.f (k : Nat) (l0 : List S26) : Option (List S34) :=
  if l0.length ≤ 1099511627776 then
    rubricatorref20_Match.all k l0.length l0 (rubricatorref20_Match.init l0.length l0 (List.replicate l0.length 0) (List.replicate l0.length false) 0).1 (rubricatorref20_Match.init l0.length l0 (List.replicate l0.length 0) (List.replicate l0.length false) 0).2 [] 0
  else none
theorem rubricatorref20_Match.mono_w : ∀ k l L O ps tt, LeO (rubricatorref20_Match.while_ k l L O ps tt) (rubricatorref20_Match.while_ (k + 1) l L O ps tt)
  | 0 => fun _ _ _ _ _ r h => by simp [rubricatorref20_Match.while_] at h
  | k + 1 => by
    intro l L O ps tt
    have ih := rubricatorref20_Match.mono_w k
    rw [rubricatorref20_Match.while_, rubricatorref20_Match.while_]
    repeat' first
      | (with_reducible exact ih _ _ _ _ _)
      | (with_reducible exact LeO.refl _)
      | (with_reducible refine LeO.ite ?_ ?_)
theorem rubricatorref20_Match.mono_a (k : Nat) : ∀ d l L O ps tt, LeO (rubricatorref20_Match.all k d l L O ps tt) (rubricatorref20_Match.all (k + 1) d l L O ps tt)
  | 0 => fun _ _ _ _ _ => LeO.refl _
  | d + 1 => by
    intro l L O ps tt
    rw [rubricatorref20_Match.all, rubricatorref20_Match.all]
    exact LeO.bind (rubricatorref20_Match.mono_w k _ _ _ _ _) (fun _ => rubricatorref20_Match.mono_a k d _ _ _ _ _)
theorem rubricatorref20_Match.mono : ∀ a0 k, LeO (rubricatorref20_Match.f k a0) (rubricatorref20_Match.f (k + 1) a0) := by
  intro a0 k
  unfold rubricatorref20_Match.f
  split
  · exact rubricatorref20_Match.mono_a k _ _ _ _ _ _
  · exact LeO.refl _
theorem rfind_bd (l : List S26) (L : List Int) (O : List Bool) (tt : Nat) : ∀ m, -1 ≤ rfind l L O tt m ∧ rfind l L O tt m < m
  | 0 => by simp [rfind]
  | m + 1 => by
    have h := rfind_bd l L O tt m
    rw [rfind]
    split <;> omega
theorem infoB34 : (Try.prog.info? 34).map (fun i => (i.zero, i.size, i.bytes)) = some (some (.agg #[.int .i64 0, .int .i64 0, .bool false]), 3, 24) := by kernel_rfl
set_option maxHeartbeats 8000000 in
set_option maxRecDepth 100000 in
theorem rubricatorref20_Match.calls (k : Nat) (A0 : Option Addr) (c0 : Nat) (l0 : List S26) (r : List S34) (w : World) (hr0 : Kd.C k26 w A0 l0.length l0) (hc0 : l0.length ≤ c0) (h : rubricatorref20_Match.f k l0 = some r) :
    Calls Try.prog 11 #[.slice A0 l0.length c0] w fun e w' => ∃ v0_ : Value, e = .returned (v0_) ∧ Kd.R k34 34 w' w.heap.size (fun _ => True) v0_ r ∧ Below w.heap.size w w' := by
  unfold rubricatorref20_Match.f at h
  by_cases hz : l0.length ≤ 1099511627776
  case neg =>
    rw [if_neg hz] at h
    exact absurd h (by simp)
  rw [if_pos hz] at h
  have H := Aside0.mk h
  have HR0 := Aside0.mk hr0
  have HC0 := Aside0.mk hc0
  clear h hr0 hc0
  obtain ⟨n, hn⟩ : ∃ n, n = l0.length := ⟨_, rfl⟩
  rw [← hn] at H HR0 HC0 hz ⊢
  have HN := Aside0.mk hn
  clear hn
  obtain ⟨CL, hCL⟩ : ∃ C, C = madeCells (Value.int .i64 0).cells n := ⟨_, rfl⟩
  obtain ⟨CO, hCO⟩ : ∃ C, C = madeCells (Value.bool false).cells n := ⟨_, rfl⟩
  have hmkL : ∀ W : World, (Instr.makeSlice 36 (.int .i64 (n : Int)) (.int .i64 (n : Int))).run Try.prog W = .ok (.slice (some ⟨W.heap.size, 0, none⟩) n n) (W.alloc (.cells CL 3)) := fun W => by
    obtain ⟨i0, hi, hz0⟩ := Option.map_eq_some_iff.1 info3
    simp only [Prod.mk.injEq] at hz0
    obtain ⟨hz0, hz1, hz2⟩ := hz0
    have h := run_make (P := Try.prog) W 36 3 i0 (.int .i64 0) Try.underlying36 hi hz0 .i64 .i64 (n : Int) (n : Int) (by omega) (by omega) (by rw [hz2]; omega) (by omega)
    rw [hz1, Nat.mul_one, Int.toNat_natCast] at h
    rw [hCL]
    exact h
  have hmkO : ∀ W : World, (Instr.makeSlice 43 (.int .i64 (n : Int)) (.int .i64 (n : Int))).run Try.prog W = .ok (.slice (some ⟨W.heap.size, 0, none⟩) n n) (W.alloc (.cells CO 4)) := fun W => by
    obtain ⟨i0, hi, hz0⟩ := Option.map_eq_some_iff.1 infoB4
    simp only [Prod.mk.injEq] at hz0
    obtain ⟨hz0, hz1, hz2⟩ := hz0
    have h := run_make (P := Try.prog) W 43 4 i0 (.bool false) Try.underlying43 hi hz0 .i64 .i64 (n : Int) (n : Int) (by omega) (by omega) (by rw [hz2]; omega) (by omega)
    rw [hz1, Nat.mul_one, Int.toNat_natCast] at h
    rw [hCO]
    exact h
  have HCL := Aside0.mk hCL
  have HCO := Aside0.mk hCO
  clear hCL hCO
  go_enter Try.func11, Try.ntmps11
  go_wp2
  go_region
  all_goals clear hmkL hmkO
  all_goals go_wp2
  · have hW : ∃ W1, W1 = (((w.alloc (Obj.cells CL 3)).alloc (Obj.cells CO 4)).alloc (Obj.cells #[Value.slice A0 n c0, Value.slice (some ⟨w.heap.size, 0, none⟩) n n, Value.slice (some ⟨w.heap.size + 1, 0, none⟩) n n] 50)).drew := ⟨_, rfl⟩
    obtain ⟨W1, hW1⟩ := hW
    have hB : Below w.heap.size w W1 := by rw [hW1]; exact (by repeat (first | (with_reducible first | exact Below.refl _ _ | apply below_alloc | apply pw_below_drewN | apply below_drew1) | exact Below.refl _ _))
    obtain ⟨m, hm⟩ : ∃ m, m = w.heap.size + 1 + 1 := ⟨_, rfl⟩
    obtain ⟨gl, hgl⟩ : ∃ m, m = w.heap.size := ⟨_, rfl⟩
    obtain ⟨gO, hgO⟩ : ∃ m, m = w.heap.size + 1 := ⟨_, rfl⟩
    have hM : Rst w.heap.size W1 m gl gO A0 n c0 n n (List.replicate n 0) (List.replicate n false) := by
      subst hm hgl hgO
      rw [hW1]
      have hL := made_row (Kd.int .i64) 0 (.int .i64 0) 3 (w) w.heap.size n (by simp) hz rfl (by decide) (by decide) (fun _ _ _ => rfl)
      have hO := made_row Kd.bool false (.bool false) 4 (w.alloc (.cells CL 3)) w.heap.size n (by simp) hz rfl (by decide) (by decide) (fun _ _ _ => rfl)
      rw [← HCL.out] at hL
      rw [← HCO.out] at hO
      have hb2 := blk_new ((w.alloc (.cells CL 3)).alloc (.cells CO 4)) (.cells #[Value.slice A0 n c0, Value.slice (some ⟨w.heap.size, 0, none⟩) n n, Value.slice (some ⟨w.heap.size + 1, 0, none⟩) n n] 50 (0, 0))
      rw [show ((w.alloc (.cells CL 3)).alloc (.cells CO 4)).heap.size = w.heap.size + 2 from by simp] at hb2
      refine ⟨hb2, ?_, ?_, by omega, by omega, by omega, by omega⟩
      · exact Kd.R_below (by simpa using hL) (by repeat (first | (with_reducible first | exact Below.refl _ _ | apply below_alloc | apply pw_below_drewN | apply below_drew1) | exact Below.refl _ _))
      · exact Kd.R_below (by simpa using hO) (by repeat (first | (with_reducible first | exact Below.refl _ _ | apply below_alloc | apply pw_below_drewN | apply below_drew1) | exact Below.refl _ _))
    rw [← hW1]
    clear hW1
    rw [show (⟨w.heap.size + 1 + 1, 0, none⟩ : Addr) = ⟨m, 0, none⟩ from by rw [hm], show (⟨w.heap.size, 0, none⟩ : Addr) = ⟨gl, 0, none⟩ from by rw [hgl], show (⟨w.heap.size + 1, 0, none⟩ : Addr) = ⟨gO, 0, none⟩ from by rw [hgO]]
    clear hm hgl hgO
    have hH : Aside0 (rubricatorref20_Match.all k n l0 (rubricatorref20_Match.init n l0 (List.replicate n 0) (List.replicate n false) 0).1 (rubricatorref20_Match.init n l0 (List.replicate n 0) (List.replicate n false) 0).2 [] 0 = some r) := H
    obtain ⟨fin, hfin⟩ : ∃ f, f = rubricatorref20_Match.init n l0 (List.replicate n 0) (List.replicate n false) 0 := ⟨_, rfl⟩
    rw [← hfin] at hH
    have HF := Aside0.mk hfin.symm
    have HM := Aside0.mk hM
    have HB := Aside0.mk hB
    clear hfin hM hB H
    go_loopw [4] (fun v wr => ∃ (z : Int) (d : Nat) (L : List Int) (O : List Bool), v = .int .i64 z ∧ 0 ≤ z ∧ z + d = n ∧ Aside0 (rubricatorref20_Match.init d l0 L O z.toNat = fin) ∧ Aside0 (Rst w.heap.size wr m gl gO A0 n c0 n n L O) ∧ Aside0 (Below w.heap.size w wr)) (fun v _ => n - (intOf v).toNat)
    case atStart => exact ⟨0, n, _, _, rfl, by omega, by omega, HF, HM, HB⟩
    case round =>
      clear HM HB HF
      obtain ⟨z, d, L, O, rfl, hz0, hzd, HI, HM, HB⟩ := hrel
      by_cases hlt : z < n
      · obtain ⟨d, rfl⟩ : ∃ d', d = d' + 1 := ⟨d - 1, by omega⟩
        have HI2 : Aside0 (rubricatorref20_Match.init d l0 (L.set z.toNat (mx 0 (rd_T26 l0 z).f1)) (O.set z.toNat (decide ((rd_T26 l0 z).f1 < 1))) (z + 1).toNat = fin) := ⟨by
          have h := HI.out
          rw [rubricatorref20_Match.init, Int.toNat_of_nonneg hz0] at h
          rw [show (z + 1).toNat = z.toNat + 1 by omega]
          exact h⟩
        have dlt : decide (z < (n : Int)) = true := decide_eq_true hlt
        have d0 : decide (0 ≤ z) = true := decide_eq_true hz0
        obtain ⟨ad, hA, a0, a1, a2, a3⟩ := at_T26 (Kd.C_below HR0.out HB.out) z hz0 hlt
        subst hA
        have q0 := World.block_lt_of_cell? wr _ a0
        have g1 := HM.out.m1
        obtain ⟨g3, g4⟩ := HM.out.cl z hz0 hlt
        have hlt1 := HM.out.lts
        clear HI
        by_cases hp : 0 < (rd_T26 l0 z).f1
        · have hv : mx 0 (rd_T26 l0 z).f1 = (rd_T26 l0 z).f1 := by unfold mx; rw [if_pos hp]
          rw [hv, show decide ((rd_T26 l0 z).f1 < 1) = false from decide_eq_false (by omega)] at HI2
          have hp2 : decide ((rd_T26 l0 z).f1 < 1) = false := decide_eq_false (by omega)
          clear hv
          go_wp2
          go_region
          all_goals go_wp2
          have hM3 := Aside0.mk ((HM.out.putL z ((rd_T26 l0 z).f1)).below (Below.refl _ _).drew)
          have hB3 := Aside0.mk (HB.out.setCell (p := ⟨gl, z.toNat, none⟩) (by show w.heap.size ≤ gl; have := HM.out.lts; omega) (.int .i64 ((rd_T26 l0 z).f1))).drew
          obtain ⟨W3, hW3⟩ : ∃ W3, W3 = (wr.setCell ⟨gl, z.toNat, none⟩ (.int .i64 ((rd_T26 l0 z).f1))).drew := ⟨_, rfl⟩
          rw [← hW3] at hM3 hB3 ⊢
          clear hW3 g1 g3 g4 a0 a1 a2 a3 q0
          obtain ⟨ad2, hA2, a0, a1, a2, a3⟩ := at_T26 (Kd.C_below HR0.out hB3.out) z hz0 hlt
          cases hA2
          have q0 := World.block_lt_of_cell? W3 _ a0
          have g1 := hM3.out.m2
          obtain ⟨g3, g4⟩ := hM3.out.co z hz0 hlt
          go_region
          all_goals go_wp2
          go_roundw
          case rel =>
            exact ⟨z + 1, d, _, _, rfl, by omega, by omega, HI2, ⟨(hM3.out.putO z _).below (Below.refl _ _).drew⟩, ⟨(hB3.out.setCell (p := ⟨gO, z.toNat, none⟩) (by show w.heap.size ≤ gO; have := hM3.out.lts; omega) _).drew⟩⟩
          case measure =>
            simp [intOf]
            omega
        · have hv : mx 0 (rd_T26 l0 z).f1 = 0 := by unfold mx; rw [if_neg hp]
          rw [hv, show decide ((rd_T26 l0 z).f1 < 1) = true from decide_eq_true (by omega)] at HI2
          have hp2 : decide ((rd_T26 l0 z).f1 < 1) = true := decide_eq_true (by omega)
          clear hv
          go_wp2
          go_region
          all_goals go_wp2
          have hM3 := Aside0.mk ((HM.out.putL z (0)).below (Below.refl _ _).drew)
          have hB3 := Aside0.mk (HB.out.setCell (p := ⟨gl, z.toNat, none⟩) (by show w.heap.size ≤ gl; have := HM.out.lts; omega) (.int .i64 0)).drew
          obtain ⟨W3, hW3⟩ : ∃ W3, W3 = (wr.setCell ⟨gl, z.toNat, none⟩ (.int .i64 0)).drew := ⟨_, rfl⟩
          rw [← hW3] at hM3 hB3 ⊢
          clear hW3 g1 g3 g4 a0 a1 a2 a3 q0
          obtain ⟨ad2, hA2, a0, a1, a2, a3⟩ := at_T26 (Kd.C_below HR0.out hB3.out) z hz0 hlt
          cases hA2
          have q0 := World.block_lt_of_cell? W3 _ a0
          have g1 := hM3.out.m2
          obtain ⟨g3, g4⟩ := hM3.out.co z hz0 hlt
          go_region
          all_goals go_wp2
          go_roundw
          case rel =>
            exact ⟨z + 1, d, _, _, rfl, by omega, by omega, HI2, ⟨(hM3.out.putO z _).below (Below.refl _ _).drew⟩, ⟨(hB3.out.setCell (p := ⟨gO, z.toNat, none⟩) (by show w.heap.size ≤ gO; have := hM3.out.lts; omega) _).drew⟩⟩
          case measure =>
            simp [intOf]
            omega
      · have hzn : z = n := by omega
        obtain rfl : d = 0 := by omega
        have hfin : (L, O) = fin := by
          have h := HI.out
          rw [rubricatorref20_Match.init] at h
          exact h
        rw [← hfin] at hH
        clear hfin HI
        have dlt : decide (z < (n : Int)) = false := decide_eq_false hlt
        clear hzn hlt hz0 hzd
        obtain ⟨wo, rfl⟩ : ∃ wo : World, wo = wr := ⟨_, rfl⟩
        go_wp2
        go_loopw [6, 5] (fun v v6 wr => ∃ (z : Int) (d : Nat) (L : List Int) (O : List Bool) (ps : List S34), v = .int .i64 z ∧ 0 ≤ z ∧ z + d = n ∧ Aside0 (rubricatorref20_Match.all k d l0 L O ps z.toNat = some r) ∧ Aside0 (Rst w.heap.size wr m gl gO A0 n c0 n n L O) ∧
          Aside0 (Kd.R k34 34 wr w.heap.size (fun q => q ≠ m ∧ q ≠ gl ∧ q ≠ gO) v6 ps) ∧ Aside0 (Below w.heap.size w wr)) (fun v _ _ => n - (intOf v).toNat)
        case atStart => exact ⟨0, n, L, O, [], rfl, by omega, by omega, hH, HM, ⟨Kd.R_nil _ _ _ _ _⟩, HB⟩
        case round =>
          clear HM HB hH
          obtain ⟨z, d, L, O, ps, rfl, hz0, hzd, HT, HM, HP, HB⟩ := hrel
          by_cases hlt : z < n
          · obtain ⟨d, rfl⟩ : ∃ d', d = d' + 1 := ⟨d - 1, by omega⟩
            have hT := HT.out
            rw [rubricatorref20_Match.all] at hT
            obtain ⟨t, hw0, ha⟩ := Option.bind_eq_some_iff.mp hT
            have HA : Aside0 (rubricatorref20_Match.all k d l0 t.1 t.2.1 t.2.2 (z + 1).toNat = some r) := ⟨by rw [show (z + 1).toNat = z.toNat + 1 by omega]; exact ha⟩
            have HW := Aside0.mk hw0
            clear hT HT hw0 ha
            have dlt : decide (z < (n : Int)) = true := decide_eq_true hlt
            have d0 : decide (0 ≤ z) = true := decide_eq_true hz0
            obtain ⟨wo, rfl⟩ : ∃ wo : World, wo = wr := ⟨_, rfl⟩
            go_wp2
            go_loopg [5] k (fun kq v6 wr => ∃ (L : List Int) (O : List Bool) (ps : List S34) (V6 : Value), V6 = v6 ∧ Aside0 (rubricatorref20_Match.while_ kq l0 L O ps z.toNat = some t) ∧ Aside0 (Rst w.heap.size wr m gl gO A0 n c0 n n L O) ∧
              Aside0 (Kd.R k34 34 wr w.heap.size (fun q => q ≠ m ∧ q ≠ gl ∧ q ≠ gO) v6 ps) ∧ Aside0 (Below w.heap.size w wr))
            case atStart => exact ⟨L, O, ps, _, rfl, HW, HM, HP, HB⟩
            case round =>
              clear HW HM HP HB
              obtain ⟨L, O, ps, V6, rfl, HW, HM, HP, HB⟩ := hrel
              cases gk with
              | zero => exact absurd HW.out (by simp [rubricatorref20_Match.while_])
              | succ k1 =>
                have hW := HW.out
                rw [rubricatorref20_Match.while_, Int.toNat_of_nonneg hz0] at hW
                clear HW
                obtain ⟨ad, hA, a0, a1, a2, a3⟩ := at_T26 (Kd.C_below HR0.out HB.out) z hz0 hlt
                subst hA
                have g2 := HM.out.m2
                obtain ⟨g3, g4⟩ := HM.out.co z hz0 hlt
                by_cases c1 : rdOf false O z = true
                · rw [if_pos c1] at hW
                  obtain rfl := Option.some.inj hW
                  clear hW
                  go_wp2
                  go_roundw
                  case rel => exact ⟨z + 1, d, L, O, ps, rfl, by omega, by omega, HA, HM, HP, HB⟩
                  case measure =>
                    simp [intOf]
                    omega
                · rw [if_neg c1] at hW
                  have c1' : rdOf false O z = false := by simpa using c1
                  clear c1
                  by_cases c2 : (rd_T26 l0 z).f3 = true
                  · rw [if_pos c2] at hW
                    have HF := Aside0.mk (opener.calls w.heap.size m gl gO n c0 n n (some ad) l0 L O z wr HM.out (Kd.C_below HR0.out HB.out) hz0 hlt hz)
                    obtain ⟨y, hy⟩ : ∃ y, y = rfind l0 L O z.toNat z.toNat := ⟨_, rfl⟩
                    have hyb := rfind_bd l0 L O z.toNat z.toNat
                    rw [← hy] at hW HF hyb
                    clear hy
                    have hs0 := HB.out.size
                    by_cases c3 : y < 0
                    · have c3' : decide (y < 0) = true := decide_eq_true c3
                      rw [if_pos c3] at hW
                      obtain rfl := Option.some.inj hW
                      clear hW c3
                      go_wp2_with (first | (go_at_call 17; refine HF.out.mono ?_; rintro e w' ⟨rfl, hb⟩; have hs1 := hb.size; have HM2 := Aside0.mk (HM.out.below hb); have HP2 := Aside0.mk (Kd.R_below HP.out hb); have HB2 := Aside0.mk (HB.out.trans (hb.mono HB.out.size)); clear hb; clear a0 a1 a2 a3 g2 g3 g4; obtain ⟨ad2, hA2, a0, a1, a2, a3⟩ := at_T26 (Kd.C_below HR0.out HB2.out) z hz0 hlt; cases hA2; have g2 := HM2.out.m2; obtain ⟨g3, g4⟩ := HM2.out.co z hz0 hlt))
                      go_region
                      all_goals go_wp2
                      go_roundw
                      case rel => exact ⟨z + 1, d, L, _, ps, rfl, by omega, by omega, HA, ⟨(HM2.out.putO z _).below (Below.refl _ _).drew⟩, ⟨Kd.R_below (Kd.R_far HP2.out (p := ⟨gO, z.toNat, none⟩) (fun q hq => hq.2.2) _) (Below.refl _ _).drew⟩, ⟨(HB2.out.setCell (p := ⟨gO, z.toNat, none⟩) (by show w.heap.size ≤ gO; have := HM2.out.lts; omega) _).drew⟩⟩
                      case measure =>
                        simp [intOf]
                        omega
                    · have c3' : decide (y < 0) = false := decide_eq_false c3
                      rw [if_neg c3] at hW
                      by_cases hpl : ps.length < 1000000000
                      · rw [if_pos hpl] at hW
                        have HW := Aside0.mk hW
                        clear hW
                        go_wp2_with (first | (go_at_call 17; refine HF.out.mono ?_; rintro e w' ⟨rfl, hb⟩; have hs1 := hb.size; have HM2 := Aside0.mk (HM.out.below hb); have HP2 := Aside0.mk (Kd.R_below HP.out hb); have HB2 := Aside0.mk (HB.out.trans (hb.mono HB.out.size)); clear hb) | (go_at_call 18; refine (rpair.calls w.heap.size m gl gO n c0 n n (some ad) L O y z _ (by omega) HM2.out (by omega) (by omega) hlt hz).mono ?_; rintro e w'' ⟨rfl, hb, hk, hm⟩; have HM3 := Aside0.mk hm; have HP3 := Aside0.mk (Kd.R_kept HP2.out hk (fun q hq hs => hs.elim hq.2.1 hq.2.2)); have HB3 := Aside0.mk (HB2.out.trans hb); clear hb hk hm) | (at_builtin; refine Kd.R_append k34 (w0 := w) w.heap.size rfl (.tmp 85) (.tmp 90) 30 34 (.agg #[.int .i64 0, .int .i64 0, .bool false]) 24 rfl Try.underlying30 infoB34 rfl (by decide) (by decide) _ ps (⟨y, z, strongF L y z⟩ : S34) [.int .i64 y, .int .i64 z, .bool (strongF L y z)] (fun q => q ≠ m ∧ q ≠ gl ∧ q ≠ gO) (fun _ => False) rfl rfl ?aP (fun _ hk => hk.elim) ?aF ?aO ?aB ?aS ?aL ?_; (case aP => exact k34_mkM _ _ _ _); (case aB => exact HB3.out); (case aF => exact fun q hq => by have := HM3.out.lts; omega); (case aO => exact HP3.out); (case aS => exact HB3.out.size); (case aL => omega); intro v1 w1 ho hb hg hat; have HP4 := Aside0.mk ho; have HB4 := Aside0.mk hb; have HM4 := Aside0.mk (HM3.out.grown hg (HP3.out.1)); clear ho hb hg hat))
                        go_roundg k1
                        case rel => exact ⟨rpairL L y z, rpairO L O y z, ps ++ [⟨y, z, strongF L y z⟩], _, rfl, HW, HM4, HP4, HB4⟩
                        case measure => omega
                      · rw [if_neg hpl] at hW
                        exact absurd hW (by simp)
                  · rw [if_neg c2] at hW
                    have c2' : (rd_T26 l0 z).f3 = false := by simpa using c2
                    obtain rfl := Option.some.inj hW
                    clear hW c2
                    go_wp2
                    go_roundw
                    case rel => exact ⟨z + 1, d, L, O, ps, rfl, by omega, by omega, HA, HM, HP, HB⟩
                    case measure =>
                      simp [intOf]
                      omega
          · obtain rfl : d = 0 := by omega
            have hT := HT.out
            rw [rubricatorref20_Match.all] at hT
            obtain rfl := Option.some.inj hT
            have dlt : decide (z < (n : Int)) = false := decide_eq_false hlt
            clear hT HT
            go_wp2
            go_ret
            exact ⟨_, rfl, Kd.R_mono HP.out (fun _ _ => trivial), HB.out⟩

  · have hW : ∃ W1, W1 = (((w.alloc (Obj.cells CO 4)).alloc (Obj.cells CL 3)).alloc (Obj.cells #[Value.slice A0 n c0, Value.slice (some ⟨w.heap.size + 1, 0, none⟩) n n, Value.slice (some ⟨w.heap.size, 0, none⟩) n n] 50)).drew := ⟨_, rfl⟩
    obtain ⟨W1, hW1⟩ := hW
    have hB : Below w.heap.size w W1 := by rw [hW1]; exact (by repeat (first | (with_reducible first | exact Below.refl _ _ | apply below_alloc | apply pw_below_drewN | apply below_drew1) | exact Below.refl _ _))
    obtain ⟨m, hm⟩ : ∃ m, m = w.heap.size + 1 + 1 := ⟨_, rfl⟩
    obtain ⟨gl, hgl⟩ : ∃ m, m = w.heap.size + 1 := ⟨_, rfl⟩
    obtain ⟨gO, hgO⟩ : ∃ m, m = w.heap.size := ⟨_, rfl⟩
    have hM : Rst w.heap.size W1 m gl gO A0 n c0 n n (List.replicate n 0) (List.replicate n false) := by
      subst hm hgl hgO
      rw [hW1]
      have hL := made_row (Kd.int .i64) 0 (.int .i64 0) 3 (w.alloc (.cells CO 4)) w.heap.size n (by simp) hz rfl (by decide) (by decide) (fun _ _ _ => rfl)
      have hO := made_row Kd.bool false (.bool false) 4 (w) w.heap.size n (by simp) hz rfl (by decide) (by decide) (fun _ _ _ => rfl)
      rw [← HCL.out] at hL
      rw [← HCO.out] at hO
      have hb2 := blk_new ((w.alloc (.cells CO 4)).alloc (.cells CL 3)) (.cells #[Value.slice A0 n c0, Value.slice (some ⟨w.heap.size + 1, 0, none⟩) n n, Value.slice (some ⟨w.heap.size, 0, none⟩) n n] 50 (0, 0))
      rw [show ((w.alloc (.cells CO 4)).alloc (.cells CL 3)).heap.size = w.heap.size + 2 from by simp] at hb2
      refine ⟨hb2, ?_, ?_, by omega, by omega, by omega, by omega⟩
      · exact Kd.R_below (by simpa using hL) (by repeat (first | (with_reducible first | exact Below.refl _ _ | apply below_alloc | apply pw_below_drewN | apply below_drew1) | exact Below.refl _ _))
      · exact Kd.R_below (by simpa using hO) (by repeat (first | (with_reducible first | exact Below.refl _ _ | apply below_alloc | apply pw_below_drewN | apply below_drew1) | exact Below.refl _ _))
    rw [← hW1]
    clear hW1
    rw [show (⟨w.heap.size + 1 + 1, 0, none⟩ : Addr) = ⟨m, 0, none⟩ from by rw [hm], show (⟨w.heap.size + 1, 0, none⟩ : Addr) = ⟨gl, 0, none⟩ from by rw [hgl], show (⟨w.heap.size, 0, none⟩ : Addr) = ⟨gO, 0, none⟩ from by rw [hgO]]
    clear hm hgl hgO
    have hH : Aside0 (rubricatorref20_Match.all k n l0 (rubricatorref20_Match.init n l0 (List.replicate n 0) (List.replicate n false) 0).1 (rubricatorref20_Match.init n l0 (List.replicate n 0) (List.replicate n false) 0).2 [] 0 = some r) := H
    obtain ⟨fin, hfin⟩ : ∃ f, f = rubricatorref20_Match.init n l0 (List.replicate n 0) (List.replicate n false) 0 := ⟨_, rfl⟩
    rw [← hfin] at hH
    have HF := Aside0.mk hfin.symm
    have HM := Aside0.mk hM
    have HB := Aside0.mk hB
    clear hfin hM hB H
    go_loopw [4] (fun v wr => ∃ (z : Int) (d : Nat) (L : List Int) (O : List Bool), v = .int .i64 z ∧ 0 ≤ z ∧ z + d = n ∧ Aside0 (rubricatorref20_Match.init d l0 L O z.toNat = fin) ∧ Aside0 (Rst w.heap.size wr m gl gO A0 n c0 n n L O) ∧ Aside0 (Below w.heap.size w wr)) (fun v _ => n - (intOf v).toNat)
    case atStart => exact ⟨0, n, _, _, rfl, by omega, by omega, HF, HM, HB⟩
    case round =>
      clear HM HB HF
      obtain ⟨z, d, L, O, rfl, hz0, hzd, HI, HM, HB⟩ := hrel
      by_cases hlt : z < n
      · obtain ⟨d, rfl⟩ : ∃ d', d = d' + 1 := ⟨d - 1, by omega⟩
        have HI2 : Aside0 (rubricatorref20_Match.init d l0 (L.set z.toNat (mx 0 (rd_T26 l0 z).f1)) (O.set z.toNat (decide ((rd_T26 l0 z).f1 < 1))) (z + 1).toNat = fin) := ⟨by
          have h := HI.out
          rw [rubricatorref20_Match.init, Int.toNat_of_nonneg hz0] at h
          rw [show (z + 1).toNat = z.toNat + 1 by omega]
          exact h⟩
        have dlt : decide (z < (n : Int)) = true := decide_eq_true hlt
        have d0 : decide (0 ≤ z) = true := decide_eq_true hz0
        obtain ⟨ad, hA, a0, a1, a2, a3⟩ := at_T26 (Kd.C_below HR0.out HB.out) z hz0 hlt
        subst hA
        have q0 := World.block_lt_of_cell? wr _ a0
        have g1 := HM.out.m1
        obtain ⟨g3, g4⟩ := HM.out.cl z hz0 hlt
        have hlt1 := HM.out.lts
        clear HI
        by_cases hp : 0 < (rd_T26 l0 z).f1
        · have hv : mx 0 (rd_T26 l0 z).f1 = (rd_T26 l0 z).f1 := by unfold mx; rw [if_pos hp]
          rw [hv, show decide ((rd_T26 l0 z).f1 < 1) = false from decide_eq_false (by omega)] at HI2
          have hp2 : decide ((rd_T26 l0 z).f1 < 1) = false := decide_eq_false (by omega)
          clear hv
          go_wp2
          go_region
          all_goals go_wp2
          have hM3 := Aside0.mk ((HM.out.putL z ((rd_T26 l0 z).f1)).below (Below.refl _ _).drew)
          have hB3 := Aside0.mk (HB.out.setCell (p := ⟨gl, z.toNat, none⟩) (by show w.heap.size ≤ gl; have := HM.out.lts; omega) (.int .i64 ((rd_T26 l0 z).f1))).drew
          obtain ⟨W3, hW3⟩ : ∃ W3, W3 = (wr.setCell ⟨gl, z.toNat, none⟩ (.int .i64 ((rd_T26 l0 z).f1))).drew := ⟨_, rfl⟩
          rw [← hW3] at hM3 hB3 ⊢
          clear hW3 g1 g3 g4 a0 a1 a2 a3 q0
          obtain ⟨ad2, hA2, a0, a1, a2, a3⟩ := at_T26 (Kd.C_below HR0.out hB3.out) z hz0 hlt
          cases hA2
          have q0 := World.block_lt_of_cell? W3 _ a0
          have g1 := hM3.out.m2
          obtain ⟨g3, g4⟩ := hM3.out.co z hz0 hlt
          go_region
          all_goals go_wp2
          go_roundw
          case rel =>
            exact ⟨z + 1, d, _, _, rfl, by omega, by omega, HI2, ⟨(hM3.out.putO z _).below (Below.refl _ _).drew⟩, ⟨(hB3.out.setCell (p := ⟨gO, z.toNat, none⟩) (by show w.heap.size ≤ gO; have := hM3.out.lts; omega) _).drew⟩⟩
          case measure =>
            simp [intOf]
            omega
        · have hv : mx 0 (rd_T26 l0 z).f1 = 0 := by unfold mx; rw [if_neg hp]
          rw [hv, show decide ((rd_T26 l0 z).f1 < 1) = true from decide_eq_true (by omega)] at HI2
          have hp2 : decide ((rd_T26 l0 z).f1 < 1) = true := decide_eq_true (by omega)
          clear hv
          go_wp2
          go_region
          all_goals go_wp2
          have hM3 := Aside0.mk ((HM.out.putL z (0)).below (Below.refl _ _).drew)
          have hB3 := Aside0.mk (HB.out.setCell (p := ⟨gl, z.toNat, none⟩) (by show w.heap.size ≤ gl; have := HM.out.lts; omega) (.int .i64 0)).drew
          obtain ⟨W3, hW3⟩ : ∃ W3, W3 = (wr.setCell ⟨gl, z.toNat, none⟩ (.int .i64 0)).drew := ⟨_, rfl⟩
          rw [← hW3] at hM3 hB3 ⊢
          clear hW3 g1 g3 g4 a0 a1 a2 a3 q0
          obtain ⟨ad2, hA2, a0, a1, a2, a3⟩ := at_T26 (Kd.C_below HR0.out hB3.out) z hz0 hlt
          cases hA2
          have q0 := World.block_lt_of_cell? W3 _ a0
          have g1 := hM3.out.m2
          obtain ⟨g3, g4⟩ := hM3.out.co z hz0 hlt
          go_region
          all_goals go_wp2
          go_roundw
          case rel =>
            exact ⟨z + 1, d, _, _, rfl, by omega, by omega, HI2, ⟨(hM3.out.putO z _).below (Below.refl _ _).drew⟩, ⟨(hB3.out.setCell (p := ⟨gO, z.toNat, none⟩) (by show w.heap.size ≤ gO; have := hM3.out.lts; omega) _).drew⟩⟩
          case measure =>
            simp [intOf]
            omega
      · have hzn : z = n := by omega
        obtain rfl : d = 0 := by omega
        have hfin : (L, O) = fin := by
          have h := HI.out
          rw [rubricatorref20_Match.init] at h
          exact h
        rw [← hfin] at hH
        clear hfin HI
        have dlt : decide (z < (n : Int)) = false := decide_eq_false hlt
        clear hzn hlt hz0 hzd
        obtain ⟨wo, rfl⟩ : ∃ wo : World, wo = wr := ⟨_, rfl⟩
        go_wp2
        go_loopw [6, 5] (fun v v6 wr => ∃ (z : Int) (d : Nat) (L : List Int) (O : List Bool) (ps : List S34), v = .int .i64 z ∧ 0 ≤ z ∧ z + d = n ∧ Aside0 (rubricatorref20_Match.all k d l0 L O ps z.toNat = some r) ∧ Aside0 (Rst w.heap.size wr m gl gO A0 n c0 n n L O) ∧
          Aside0 (Kd.R k34 34 wr w.heap.size (fun q => q ≠ m ∧ q ≠ gl ∧ q ≠ gO) v6 ps) ∧ Aside0 (Below w.heap.size w wr)) (fun v _ _ => n - (intOf v).toNat)
        case atStart => exact ⟨0, n, L, O, [], rfl, by omega, by omega, hH, HM, ⟨Kd.R_nil _ _ _ _ _⟩, HB⟩
        case round =>
          clear HM HB hH
          obtain ⟨z, d, L, O, ps, rfl, hz0, hzd, HT, HM, HP, HB⟩ := hrel
          by_cases hlt : z < n
          · obtain ⟨d, rfl⟩ : ∃ d', d = d' + 1 := ⟨d - 1, by omega⟩
            have hT := HT.out
            rw [rubricatorref20_Match.all] at hT
            obtain ⟨t, hw0, ha⟩ := Option.bind_eq_some_iff.mp hT
            have HA : Aside0 (rubricatorref20_Match.all k d l0 t.1 t.2.1 t.2.2 (z + 1).toNat = some r) := ⟨by rw [show (z + 1).toNat = z.toNat + 1 by omega]; exact ha⟩
            have HW := Aside0.mk hw0
            clear hT HT hw0 ha
            have dlt : decide (z < (n : Int)) = true := decide_eq_true hlt
            have d0 : decide (0 ≤ z) = true := decide_eq_true hz0
            obtain ⟨wo, rfl⟩ : ∃ wo : World, wo = wr := ⟨_, rfl⟩
            go_wp2
            go_loopg [5] k (fun kq v6 wr => ∃ (L : List Int) (O : List Bool) (ps : List S34) (V6 : Value), V6 = v6 ∧ Aside0 (rubricatorref20_Match.while_ kq l0 L O ps z.toNat = some t) ∧ Aside0 (Rst w.heap.size wr m gl gO A0 n c0 n n L O) ∧
              Aside0 (Kd.R k34 34 wr w.heap.size (fun q => q ≠ m ∧ q ≠ gl ∧ q ≠ gO) v6 ps) ∧ Aside0 (Below w.heap.size w wr))
            case atStart => exact ⟨L, O, ps, _, rfl, HW, HM, HP, HB⟩
            case round =>
              clear HW HM HP HB
              obtain ⟨L, O, ps, V6, rfl, HW, HM, HP, HB⟩ := hrel
              cases gk with
              | zero => exact absurd HW.out (by simp [rubricatorref20_Match.while_])
              | succ k1 =>
                have hW := HW.out
                rw [rubricatorref20_Match.while_, Int.toNat_of_nonneg hz0] at hW
                clear HW
                obtain ⟨ad, hA, a0, a1, a2, a3⟩ := at_T26 (Kd.C_below HR0.out HB.out) z hz0 hlt
                subst hA
                have g2 := HM.out.m2
                obtain ⟨g3, g4⟩ := HM.out.co z hz0 hlt
                by_cases c1 : rdOf false O z = true
                · rw [if_pos c1] at hW
                  obtain rfl := Option.some.inj hW
                  clear hW
                  go_wp2
                  go_roundw
                  case rel => exact ⟨z + 1, d, L, O, ps, rfl, by omega, by omega, HA, HM, HP, HB⟩
                  case measure =>
                    simp [intOf]
                    omega
                · rw [if_neg c1] at hW
                  have c1' : rdOf false O z = false := by simpa using c1
                  clear c1
                  by_cases c2 : (rd_T26 l0 z).f3 = true
                  · rw [if_pos c2] at hW
                    have HF := Aside0.mk (opener.calls w.heap.size m gl gO n c0 n n (some ad) l0 L O z wr HM.out (Kd.C_below HR0.out HB.out) hz0 hlt hz)
                    obtain ⟨y, hy⟩ : ∃ y, y = rfind l0 L O z.toNat z.toNat := ⟨_, rfl⟩
                    have hyb := rfind_bd l0 L O z.toNat z.toNat
                    rw [← hy] at hW HF hyb
                    clear hy
                    have hs0 := HB.out.size
                    by_cases c3 : y < 0
                    · have c3' : decide (y < 0) = true := decide_eq_true c3
                      rw [if_pos c3] at hW
                      obtain rfl := Option.some.inj hW
                      clear hW c3
                      go_wp2_with (first | (go_at_call 17; refine HF.out.mono ?_; rintro e w' ⟨rfl, hb⟩; have hs1 := hb.size; have HM2 := Aside0.mk (HM.out.below hb); have HP2 := Aside0.mk (Kd.R_below HP.out hb); have HB2 := Aside0.mk (HB.out.trans (hb.mono HB.out.size)); clear hb; clear a0 a1 a2 a3 g2 g3 g4; obtain ⟨ad2, hA2, a0, a1, a2, a3⟩ := at_T26 (Kd.C_below HR0.out HB2.out) z hz0 hlt; cases hA2; have g2 := HM2.out.m2; obtain ⟨g3, g4⟩ := HM2.out.co z hz0 hlt))
                      go_region
                      all_goals go_wp2
                      go_roundw
                      case rel => exact ⟨z + 1, d, L, _, ps, rfl, by omega, by omega, HA, ⟨(HM2.out.putO z _).below (Below.refl _ _).drew⟩, ⟨Kd.R_below (Kd.R_far HP2.out (p := ⟨gO, z.toNat, none⟩) (fun q hq => hq.2.2) _) (Below.refl _ _).drew⟩, ⟨(HB2.out.setCell (p := ⟨gO, z.toNat, none⟩) (by show w.heap.size ≤ gO; have := HM2.out.lts; omega) _).drew⟩⟩
                      case measure =>
                        simp [intOf]
                        omega
                    · have c3' : decide (y < 0) = false := decide_eq_false c3
                      rw [if_neg c3] at hW
                      by_cases hpl : ps.length < 1000000000
                      · rw [if_pos hpl] at hW
                        have HW := Aside0.mk hW
                        clear hW
                        go_wp2_with (first | (go_at_call 17; refine HF.out.mono ?_; rintro e w' ⟨rfl, hb⟩; have hs1 := hb.size; have HM2 := Aside0.mk (HM.out.below hb); have HP2 := Aside0.mk (Kd.R_below HP.out hb); have HB2 := Aside0.mk (HB.out.trans (hb.mono HB.out.size)); clear hb) | (go_at_call 18; refine (rpair.calls w.heap.size m gl gO n c0 n n (some ad) L O y z _ (by omega) HM2.out (by omega) (by omega) hlt hz).mono ?_; rintro e w'' ⟨rfl, hb, hk, hm⟩; have HM3 := Aside0.mk hm; have HP3 := Aside0.mk (Kd.R_kept HP2.out hk (fun q hq hs => hs.elim hq.2.1 hq.2.2)); have HB3 := Aside0.mk (HB2.out.trans hb); clear hb hk hm) | (at_builtin; refine Kd.R_append k34 (w0 := w) w.heap.size rfl (.tmp 85) (.tmp 90) 30 34 (.agg #[.int .i64 0, .int .i64 0, .bool false]) 24 rfl Try.underlying30 infoB34 rfl (by decide) (by decide) _ ps (⟨y, z, strongF L y z⟩ : S34) [.int .i64 y, .int .i64 z, .bool (strongF L y z)] (fun q => q ≠ m ∧ q ≠ gl ∧ q ≠ gO) (fun _ => False) rfl rfl ?aP (fun _ hk => hk.elim) ?aF ?aO ?aB ?aS ?aL ?_; (case aP => exact k34_mkM _ _ _ _); (case aB => exact HB3.out); (case aF => exact fun q hq => by have := HM3.out.lts; omega); (case aO => exact HP3.out); (case aS => exact HB3.out.size); (case aL => omega); intro v1 w1 ho hb hg hat; have HP4 := Aside0.mk ho; have HB4 := Aside0.mk hb; have HM4 := Aside0.mk (HM3.out.grown hg (HP3.out.1)); clear ho hb hg hat))
                        go_roundg k1
                        case rel => exact ⟨rpairL L y z, rpairO L O y z, ps ++ [⟨y, z, strongF L y z⟩], _, rfl, HW, HM4, HP4, HB4⟩
                        case measure => omega
                      · rw [if_neg hpl] at hW
                        exact absurd hW (by simp)
                  · rw [if_neg c2] at hW
                    have c2' : (rd_T26 l0 z).f3 = false := by simpa using c2
                    obtain rfl := Option.some.inj hW
                    clear hW c2
                    go_wp2
                    go_roundw
                    case rel => exact ⟨z + 1, d, L, O, ps, rfl, by omega, by omega, HA, HM, HP, HB⟩
                    case measure =>
                      simp [intOf]
                      omega
          · obtain rfl : d = 0 := by omega
            have hT := HT.out
            rw [rubricatorref20_Match.all] at hT
            obtain rfl := Option.some.inj hT
            have dlt : decide (z < (n : Int)) = false := decide_eq_false hlt
            clear hT HT
            go_wp2
            go_ret
            exact ⟨_, rfl, Kd.R_mono HP.out (fun _ _ => trivial), HB.out⟩

end Go.Proofs.Ytojmhdooglihaaa.PA
