/- A Writer of bits: the walks through its methods. No conditions. -/
import Derived.Test.YtblneonbilbaiaaPAx1
import Derived.Test.YtblneonbilbaiaaPAx2
import Derived.Test.YtblneonbilbaiaaExt
import Derived.Test.YtblneonbilbaiaaWKept
import Derived.BigRegion
import Derived.Lib.LazyBuf
import Derived.RegionTactic
namespace Go.Proofs.Ytblneonbilbaiaa.PA
open Go.RowKit Go.Proofs.YtblneonbilbaiaaW.PrintWords Go.Proofs.YtblneonbilbaiaaW.PrintLast Go.Proofs.YtblneonbilbaiaaW.PrintMore
set_option linter.unusedVariables false
set_option linter.unusedSimpArgs false
/-- The blocks of a state at g whose row is u. -/
def Foot (g : Nat) (u : Value) (k : Nat) : Prop := k = g ∨ u.ownBlock = some k
/-- A Writer at block g: its bytes, the part and how many bits it has. -/
structure Wst (b0 : Nat) (w : World) (g : Nat) (b : List Int) (part inn : Int) (u : Value) : Prop where
  blk : w.heap[g]? = some (.cells #[u, .int .u8 part, .int .i64 inn] 64 (0, 0))
  row : Kd.R (Kd.int .u8) 5 w b0 (fun k => k ≠ g) u b
  base : b0 ≤ g
def ptF (part inn v : Int) : Int := Go.bits .or .u8 part (Go.bits .and .i64 v 1 % 256 * 2 ^ inn.toNat % 256)
def bitB (b : List Int) (part inn v : Int) : List Int := if inn + 1 = 8 then b ++ [ptF part inn v] else b
def bitP (part inn v : Int) : Int := if inn + 1 = 8 then 0 else ptF part inn v
def bitI (inn : Int) : Int := if inn + 1 = 8 then 0 else inn + 1
theorem info5B : (Try.prog.info? 5).map (fun i => (i.zero, i.size, i.bytes)) = some (some (.int .u8 0), 1, 1) := by kernel_rfl
set_option maxHeartbeats 4000000 in
set_option maxRecDepth 100000 in
theorem bits_Writer_bit.calls (g : Nat) (b : List Int) (part inn v : Int) (u : Value) (w : World) (b0 : Nat) (hbw : b0 ≤ w.heap.size) (h : Wst b0 w g b part inn u) (hi : 0 ≤ inn) (hi2 : inn < 8) (hl : b.length < 1000000000) :
    Calls Try.prog 37 #[.pointer (some ⟨g, 0, none⟩), .int .i64 v] w fun e w' => e = .returned (.tuple #[]) ∧ ∃ u', Wst b0 w' g (bitB b part inn v) (bitP part inn v) (bitI inn) u' ∧ (u'.ownBlock = u.ownBlock ∨ ∃ k, u'.ownBlock = some k ∧ w.heap.size ≤ k) ∧ Kept w w' (Foot g u) ∧ Below b0 w w' := by
  have HW := Aside0.mk h
  have c1 : w.cell? ⟨g, 1, none⟩ = some (.int .u8 part) := blk_cell h.blk 1
  have c2 : w.cell? ⟨g, 2, none⟩ = some (.int .i64 inn) := blk_cell h.blk 2
  have f1 := blk_frozen h.blk 1
  have f2 := blk_frozen h.blk 2
  have q0 := blk_lt h.blk
  have d0 : decide (0 ≤ inn) = true := decide_eq_true hi
  have d1 : decide (inn < 0) = false := decide_eq_false (by omega)
  clear h
  have HPT : ∃ pt, pt = ptF part inn v := ⟨_, rfl⟩
  by_cases h8 : inn + 1 = 8
  · have HE : Aside0 (bitB b part inn v = b ++ [ptF part inn v] ∧ bitP part inn v = 0 ∧ bitI inn = 0) := ⟨by unfold bitB bitP bitI; rw [if_pos h8, if_pos h8, if_pos h8]; exact ⟨rfl, rfl, rfl⟩⟩
    have d2 : (inn + 1 == 8) = true := beq_iff_eq.mpr h8
    clear h8
    go_enter Try.func37, Try.ntmps37
    go_wp2
    go_region
    all_goals go_wp2
    obtain ⟨pt, hpt⟩ := HPT
    have hpt2 : Go.bits .or .u8 part (Go.bits .and .i64 v 1 % 256 * 2 ^ inn.toNat % 256) = pt := hpt.symm
    rw [hpt2]
    rw [← hpt] at HE
    clear hpt hpt2
    have hblk := Aside0.mk (blk_drew (blk_put (cs := #[u, .int .u8 pt, .int .i64 inn]) (cs' := #[u, .int .u8 pt, .int .i64 (inn + 1)]) (blk_put (cs := #[u, .int .u8 part, .int .i64 inn]) HW.out.blk 1 (.int .u8 pt) rfl) 2 (.int .i64 (inn + 1)) rfl))
    have hrow := Aside0.mk (Kd.R_drew (Kd.R_far (p := ⟨g, 2, none⟩) (Kd.R_far (p := ⟨g, 1, none⟩) HW.out.row (fun _ hk => hk) (.int .u8 pt)) (fun _ hk => hk) (.int .i64 (inn + 1))))
    have hB := Aside0.mk (((Below.refl b0 w).setCell (p := ⟨g, 1, none⟩) HW.out.base (.int .u8 pt)).setCell (p := ⟨g, 2, none⟩) HW.out.base (.int .i64 (inn + 1))).drew
    have hK := Aside0.mk ((((Kept.refl w (Foot g u)).setCell (p := ⟨g, 1, none⟩) (.inl (.inl rfl)) (.int .u8 pt)).setCell (p := ⟨g, 2, none⟩) (.inl (.inl rfl)) (.int .i64 (inn + 1))).drew)
    obtain ⟨W1, hW1⟩ : ∃ W1, W1 = ((w.setCell ⟨g, 1, none⟩ (.int .u8 pt)).setCell ⟨g, 2, none⟩ (.int .i64 (inn + 1))).drew := ⟨_, rfl⟩
    rw [← hW1] at hblk hrow hB hK ⊢
    clear hW1 c1 c2 f1 f2
    refine start_ (n := 14) (S := fun w' => w'.cell? ⟨g, 0, none⟩ = some u ∧ w'.cell? ⟨g, 1, none⟩ = some (.int .u8 pt)) (ds := [10, 13]) #[false, false, false, false, false, false, false, false, false, false, false, false, false, false] (by kernel_rfl) rfl rfl ⟨blk_cell hblk.out 0, blk_cell hblk.out 1⟩ (fun hHeld => ?_)
    have hblk2 := Aside0.mk (blk_drew hblk.out)
    have hrow2 := Aside0.mk (Kd.R_drew hrow.out)
    have hB2 := Aside0.mk (hB.out.drew)
    have hK2 := Aside0.mk (hK.out.drew)
    clear hblk hrow hB hK
    generalize W1.drew = W2 at hblk2 hrow2 hB2 hK2 hHeld ⊢
    refine pure_ (i := 0) (N := some 31) (v := ?_) (a' := ?_) #[true, false, false, false, false, false, false, false, false, false, false, false, false, false] rfl rfl (by kernel_rfl) (fun _ _ _ h => h) (Or.inl ⟨by rfl, ?_⟩) ?_ ?_
    rotate_left
    · intro w'
      go_simp
      with_reducible rfl
    rotate_left
    · simp only [Act.put, List.setIfInBounds_toArray, List.set_cons_zero, List.set_cons_succ, i64_w, i32_w]
      rfl
    refine pure_ (i := 1) (N := some 32) (v := ?_) (a' := ?_) #[true, true, false, false, false, false, false, false, false, false, false, false, false, false] rfl rfl (by kernel_rfl) (fun _ _ _ h => h) (Or.inl ⟨by rfl, ?_⟩) ?_ ?_
    rotate_left
    · intro w'
      go_simp
      with_reducible rfl
    rotate_left
    · simp only [Act.put, List.setIfInBounds_toArray, List.set_cons_zero, List.set_cons_succ, i64_w, i32_w]
      rfl
    refine pure_ (i := 2) (N := some 33) (v := ?_) (a' := ?_) #[true, true, true, false, false, false, false, false, false, false, false, false, false, false] rfl rfl (by kernel_rfl) (fun _ _ _ h => h) (Or.inl ⟨by rfl, ?_⟩) ?_ ?_
    rotate_left
    · intro w'
      go_simp
      with_reducible rfl
    rotate_left
    · simp only [Act.put, List.setIfInBounds_toArray, List.set_cons_zero, List.set_cons_succ, i64_w, i32_w]
      rfl
    refine pure_ (i := 3) (N := some 34) (v := ?_) (a' := ?_) #[true, true, true, true, false, false, false, false, false, false, false, false, false, false] rfl rfl (by kernel_rfl) (fun _ _ _ h => h) (Or.inl ⟨by rfl, ?_⟩) ?_ ?_
    rotate_left
    · intro w'
      go_simp
      with_reducible rfl
    rotate_left
    · simp only [Act.put, List.setIfInBounds_toArray, List.set_cons_zero, List.set_cons_succ, i64_w, i32_w]
      rfl
    refine pure_ (i := 5) (N := some 36) (v := ?_) (a' := ?_) #[true, true, true, true, false, true, false, false, false, false, false, false, false, false] rfl rfl (by kernel_rfl) (fun _ _ _ h => h) (Or.inl ⟨by rfl, ?_⟩) ?_ ?_
    rotate_left
    · intro w'
      go_simp
      with_reducible rfl
    rotate_left
    · simp only [Act.put, List.setIfInBounds_toArray, List.set_cons_zero, List.set_cons_succ, i64_w, i32_w]
      rfl
    refine pure_ (i := 6) (N := some 37) (v := ?_) (a' := ?_) #[true, true, true, true, false, true, true, false, false, false, false, false, false, false] rfl rfl (by kernel_rfl) (fun _ _ _ h => h) (Or.inl ⟨by rfl, ?_⟩) ?_ ?_
    rotate_left
    · intro w'
      go_simp
      with_reducible rfl
    rotate_left
    · simp only [Act.put, List.setIfInBounds_toArray, List.set_cons_zero, List.set_cons_succ, i64_w, i32_w]
      rfl
    refine pure_ (i := 7) (N := some 38) (v := ?_) (a' := ?_) #[true, true, true, true, false, true, true, true, false, false, false, false, false, false] rfl rfl (by kernel_rfl) (fun _ _ _ h => h) (Or.inl ⟨by rfl, ?_⟩) ?_ ?_
    rotate_left
    · intro w'
      go_simp
      with_reducible rfl
    rotate_left
    · simp only [Act.put, List.setIfInBounds_toArray, List.set_cons_zero, List.set_cons_succ, i64_w, i32_w]
      rfl
    refine take_ (i := 4) (N := some 35) (v := ?_) (a' := ?_) #[true, true, true, true, true, true, true, true, false, false, false, false, false, false] rfl rfl (by kernel_rfl) (fun _ _ _ h => h) (Or.inl ⟨by rfl, ?_⟩) hHeld ?_ ?_
    rotate_left
    · rintro w' ⟨s0, s1⟩
      go_simp
      with_reducible rfl
    rotate_left
    · simp only [Act.put, List.setIfInBounds_toArray, List.set_cons_zero, List.set_cons_succ, i64_w, i32_w]
      rfl
    refine take_ (i := 8) (N := some 39) (v := ?_) (a' := ?_) #[true, true, true, true, true, true, true, true, true, false, false, false, false, false] rfl rfl (by kernel_rfl) (fun _ _ _ h => h) (Or.inl ⟨by rfl, ?_⟩) hHeld ?_ ?_
    rotate_left
    · rintro w' ⟨s0, s1⟩
      go_simp
      with_reducible rfl
    rotate_left
    · simp only [Act.put, List.setIfInBounds_toArray, List.set_cons_zero, List.set_cons_succ, i64_w, i32_w]
      rfl
    refine one_ (i := 9) (N := some 40) #[true, true, true, true, true, true, true, true, true, true, false, false, false, false] rfl rfl (by kernel_rfl) (by decide) (fun K hKK => ?_)
    refine value_ (w1 := W2.alloc (.cells [Value.int .u8 pt].toArray 5)) (v := .slice (some ⟨W2.heap.size, 0, none⟩) 1 1) (by rfl) rfl ?_ ?_
    · go_simp
      try rfl
    refine hKK.out _ _ ⟨blk_cell (blk_alloc hblk2.out _) 0, blk_cell (blk_alloc hblk2.out _) 1⟩ (fun hHeld3 => ?_)
    clear hKK K hHeld3
    refine norm_ (a' := ?_) ?_ ?_
    rotate_left
    · show Act.put _ (some 40) _ = _
      simp only [Act.put, List.setIfInBounds_toArray, List.set_cons_zero, List.set_cons_succ, i64_w, i32_w]
      rfl
    refine last_ (i := 10) (N := some 41) #[true, true, true, true, true, true, true, true, true, true, true, false, false, false] rfl rfl (by kernel_rfl) (by decide) (fun K hKK => ?_)
    refine Kd.R_append_step (Kd.int .u8) (w0 := w) b0 (by rfl) (.tmp 35) (.tmp 40) 29 5 (.int .u8 0) 1 rfl Try.underlying29 info5B rfl (by decide) (by omega) u b pt [.int .u8 pt] (fun k => k ≠ g) (fun _ => False) rfl rfl ?aP (fun _ hk => hk.elim) ?aF ?aO ?aB ?aS ?aL ?_
    case aP => exact rfl
    case aB => exact hB2.out
    case aF => exact fun k hk => by have := blk_lt hblk2.out; omega
    case aO => exact hrow2.out
    case aS => exact Nat.le_trans hbw hB2.out.size
    case aL => omega
    intro v1 w2 ho hb hg hat
    obtain ⟨Ao, co, eo⟩ := Kd.R_slice ho
    subst eo
    have hown : ∀ k, u.ownBlock = some k → k ≠ g := hrow2.out.1
    have hblk3 : w2.heap[g]? = some (.cells #[u, .int .u8 pt, .int .i64 (inn + 1)] 64 (0, 0)) := (hg.block g (blk_lt hblk2.out) (fun e => hown g e.symm rfl)).trans hblk2.out
    have hK3 : Kept w w2 (Foot g u) := Kept.of_grown hg hK2.out (fun k hk => .inl (.inr hk))
    have hat2 : (Value.slice Ao (b ++ [pt]).length co).ownBlock = u.ownBlock ∨ ∃ k, (Value.slice Ao (b ++ [pt]).length co).ownBlock = some k ∧ w.heap.size ≤ k := hat.imp id (fun ⟨k, h1, h2⟩ => ⟨k, h1, Nat.le_trans hK2.out.1 h2⟩)
    have g0 : w2.cell? ⟨g, 0, none⟩ = some u := blk_cell hblk3 0
    have gf0 := blk_frozen hblk3 0
    replace hblk3 := Aside0.mk hblk3
    replace hK3 := Aside0.mk hK3
    replace hat2 := Aside0.mk hat2
    replace ho := Aside0.mk ho
    replace hb := Aside0.mk hb
    clear hg hat hown hblk2 hrow2 hB2 hK2 hHeld
    refine hKK.out _ _ ?_
    clear hKK K
    refine norm_ (a' := ?_) ?_ ?_
    rotate_left
    · show Act.put _ (some 41) _ = _
      simp only [Act.put, List.setIfInBounds_toArray, List.set_cons_zero, List.set_cons_succ, i64_w, i32_w]
      rfl
    refine pure_ (i := 11) (N := some 42) (v := ?_) (a' := ?_) #[true, true, true, true, true, true, true, true, true, true, true, true, false, false] rfl rfl (by kernel_rfl) (fun _ _ _ h => h) (Or.inl ⟨by rfl, ?_⟩) ?_ ?_
    rotate_left
    · intro w'
      go_simp
      with_reducible rfl
    rotate_left
    · simp only [Act.put, List.setIfInBounds_toArray, List.set_cons_zero, List.set_cons_succ, i64_w, i32_w]
      rfl
    refine pure_ (i := 12) (N := some 43) (v := ?_) (a' := ?_) #[true, true, true, true, true, true, true, true, true, true, true, true, true, false] rfl rfl (by kernel_rfl) (fun _ _ _ h => h) (Or.inl ⟨by rfl, ?_⟩) ?_ ?_
    rotate_left
    · intro w'
      go_simp
      with_reducible rfl
    rotate_left
    · simp only [Act.put, List.setIfInBounds_toArray, List.set_cons_zero, List.set_cons_succ, i64_w, i32_w]
      rfl
    refine last_ (i := 13) (N := none) #[true, true, true, true, true, true, true, true, true, true, true, true, true, true] rfl rfl (by kernel_rfl) (by decide) (fun K hKK => ?_)
    refine skip_ (w1 := ?_) (by rfl) rfl ?_ ?_
    rotate_left
    · go_simp
      rfl
    refine hKK.out _ _ ?_
    clear hKK K
    refine done_ (by kernel_rfl) ?_
    have q2 := blk_lt hblk3.out
    have hblk4 := Aside0.mk (blk_put (cs := #[u, .int .u8 pt, .int .i64 (inn + 1)]) (cs' := #[(.slice Ao (b ++ [pt]).length co), .int .u8 pt, .int .i64 (inn + 1)]) hblk3.out 0 (.slice Ao (b ++ [pt]).length co) rfl)
    have hrow4 := Aside0.mk (Kd.R_far (p := ⟨g, 0, none⟩) ho.out (fun _ hk => hk) (.slice Ao (b ++ [pt]).length co))
    have hB4 := Aside0.mk (hb.out.setCell (p := ⟨g, 0, none⟩) HW.out.base (.slice Ao (b ++ [pt]).length co))
    have hK4 := Aside0.mk (hK3.out.setCell (p := ⟨g, 0, none⟩) (.inl (.inl rfl)) (.slice Ao (b ++ [pt]).length co))
    rw [show b.length + 1 = (b ++ [pt]).length from by simp]
    generalize w2.setCell ⟨g, 0, none⟩ (.slice Ao (b ++ [pt]).length co) = W4 at hblk4 hrow4 hB4 hK4 ⊢
    clear hblk3 ho hb hK3 g0 gf0 q2
    have c1 : W4.cell? ⟨g, 1, none⟩ = some (.int .u8 pt) := blk_cell hblk4.out 1
    have c2 : W4.cell? ⟨g, 2, none⟩ = some (.int .i64 (inn + 1)) := blk_cell hblk4.out 2
    have f1 := blk_frozen hblk4.out 1
    have f2 := blk_frozen hblk4.out 2
    have q4 := blk_lt hblk4.out
    go_wp2
    refine bodyPost_end (results_none rfl _ _ _) rfl ?_
    rw [HE.out.1, HE.out.2.1, HE.out.2.2]
    refine ⟨rfl, (.slice Ao (b ++ [pt]).length co), ⟨?_, ?_, HW.out.base⟩, hat2.out, ?_, ?_⟩
    · exact blk_put (cs := #[(.slice Ao (b ++ [pt]).length co), .int .u8 0, .int .i64 (inn + 1)]) (blk_put (cs := #[(.slice Ao (b ++ [pt]).length co), .int .u8 pt, .int .i64 (inn + 1)]) hblk4.out 1 (.int .u8 0) rfl) 2 (.int .i64 0) rfl
    · exact Kd.R_far (p := ⟨g, 2, none⟩) (Kd.R_far (p := ⟨g, 1, none⟩) hrow4.out (fun _ hk => hk) _) (fun _ hk => hk) _
    · exact (hK4.out.setCell (p := ⟨g, 1, none⟩) (.inl (.inl rfl)) _).setCell (p := ⟨g, 2, none⟩) (.inl (.inl rfl)) _
    · exact (hB4.out.setCell (p := ⟨g, 1, none⟩) HW.out.base _).setCell (p := ⟨g, 2, none⟩) HW.out.base _
  · have HE : Aside0 (bitB b part inn v = b ∧ bitP part inn v = ptF part inn v ∧ bitI inn = inn + 1) := ⟨by unfold bitB bitP bitI; rw [if_neg h8, if_neg h8, if_neg h8]; exact ⟨rfl, rfl, rfl⟩⟩
    have d2 : (inn + 1 == 8) = false := beq_eq_false_iff_ne.mpr h8
    clear h8
    go_enter Try.func37, Try.ntmps37
    go_wp2
    go_region
    all_goals go_wp2
    refine bodyPost_end (results_none rfl _ _ _) rfl ?_
    rw [HE.out.1, HE.out.2.1, HE.out.2.2]
    refine ⟨rfl, u, ⟨?_, ?_, HW.out.base⟩, .inl rfl, ?_, ?_⟩
    · exact blk_drew (blk_put (cs := #[u, .int .u8 (ptF part inn v), .int .i64 inn]) (blk_put (cs := #[u, .int .u8 part, .int .i64 inn]) HW.out.blk 1 (.int .u8 (ptF part inn v)) rfl) 2 (.int .i64 (inn + 1)) rfl)
    · exact Kd.R_drew (Kd.R_far (p := ⟨g, 2, none⟩) (Kd.R_far (p := ⟨g, 1, none⟩) HW.out.row (fun _ hk => hk) _) (fun _ hk => hk) _)
    · exact (((Kept.refl w (Foot g u)).setCell (p := ⟨g, 1, none⟩) (.inl (.inl rfl)) _).setCell (p := ⟨g, 2, none⟩) (.inl (.inl rfl)) _).drew
    · exact (((Below.refl b0 w).setCell (p := ⟨g, 1, none⟩) HW.out.base _).setCell (p := ⟨g, 2, none⟩) HW.out.base _).drew
/-- A Writer's state: its bytes, the part, the bits of the part. -/
structure BW where
  b : List Int
  p : Int
  i : Int
def BW.ok (s : BW) (m : Nat) : Prop := 0 ≤ s.i ∧ s.i < 8 ∧ s.b.length ≤ m
def bitW (s : BW) (v : Int) : BW := ⟨bitB s.b s.p s.i v, bitP s.p s.i v, bitI s.i⟩
theorem bitW.ok {s : BW} {m : Nat} (h : s.ok m) (v : Int) : (bitW s v).ok (m + 1) := by
  obtain ⟨h1, h2, h3⟩ := h
  unfold bitW BW.ok bitB bitI
  simp only
  split
  · simp; omega
  · omega
/-- From w to w' the state at g alone has moved: its row is its own still. -/
structure Wto (b0 : Nat) (w : World) (g : Nat) (u : Value) (w' : World) (u' : Value) : Prop where
  own : u'.ownBlock = u.ownBlock ∨ ∃ k, u'.ownBlock = some k ∧ w.heap.size ≤ k
  kept : Kept w w' (Foot g u)
  below : Below b0 w w'
theorem Wto.refl {b0 : Nat} {w : World} {g : Nat} {u : Value} : Wto b0 w g u w u := ⟨.inl rfl, Kept.refl _ _, Below.refl _ _⟩
theorem Wto.trans {b0 : Nat} {w w1 w2 : World} {g : Nat} {u u1 u2 : Value} (h : Wto b0 w g u w1 u1) (k : Wto b0 w1 g u1 w2 u2) : Wto b0 w g u w2 u2 := by
  refine ⟨?_, h.kept.then_ k.kept (fun j hj => ?_), h.below.trans k.below⟩
  · rcases k.own with e | ⟨j, e, hj⟩
    · rcases h.own with e2 | ⟨j, e2, hj⟩
      · exact .inl (e.trans e2)
      · exact .inr ⟨j, e.trans e2, hj⟩
    · exact .inr ⟨j, e, Nat.le_trans h.kept.1 hj⟩
  · rcases hj with rfl | hj
    · exact .inl (.inl rfl)
    · rcases h.own with e2 | ⟨j2, e2, hj2⟩
      · exact .inl (.inr (e2 ▸ hj))
      · rw [e2] at hj
        obtain rfl := Option.some.inj hj
        exact .inr hj2
theorem Wto.drawn {b0 : Nat} {w w1 : World} {g : Nat} {u : Value} (hb : Below b0 w w1) (hk : Below w.heap.size w w1) : Wto b0 w g u w1 u := ⟨.inl rfl, Kept.of_below hk _, hb⟩
theorem Wst.below {b0 : Nat} {w w1 : World} {g : Nat} {b : List Int} {p i : Int} {u : Value} (h : Wst b0 w g b p i u) (hb : Below w.heap.size w w1) : Wst b0 w1 g b p i u :=
  ⟨(hb.block g (blk_lt h.blk)).trans h.blk, Kd.R_below h.row hb, h.base⟩
theorem bits_Writer_bit.to (g : Nat) (s : BW) (v : Int) (u : Value) (w : World) (b0 : Nat) (hbw : b0 ≤ w.heap.size) (h : Wst b0 w g s.b s.p s.i u) (hs : s.ok 900000000) :
    Calls Try.prog 37 #[.pointer (some ⟨g, 0, none⟩), .int .i64 v] w fun e w' => e = .returned (.tuple #[]) ∧ ∃ u', Wst b0 w' g (bitW s v).b (bitW s v).p (bitW s v).i u' ∧ Wto b0 w g u w' u' :=
  (bits_Writer_bit.calls g s.b s.p s.i v u w b0 hbw h hs.1 hs.2.1 (by have := hs.2.2; omega)).mono fun e w' ⟨he, u', h1, h2, h3, h4⟩ => ⟨he, u', h1, h2, h3, h4⟩
/-- d bits of v from the i-th on, the lowest first. -/
def putW : Nat → Nat → BW → Int → BW
  | 0, _, s, _ => s
  | d + 1, i, s, v => putW d (i + 1) (bitW s (v / 2 ^ i)) v
set_option maxHeartbeats 4000000 in
set_option maxRecDepth 100000 in
theorem bits_Writer_Put.calls (g : Nat) (s : BW) (v n : Int) (u : Value) (w : World) (b0 : Nat) (hbw : b0 ≤ w.heap.size) (h : Wst b0 w g s.b s.p s.i u) (hs : s.ok 800000000)
    (hn : 0 ≤ n) (hn2 : n ≤ 24) (hf : bits_fits.f v n 24 = some true) :
    Calls Try.prog 12 #[.pointer (some ⟨g, 0, none⟩), .int .i64 v, .int .i64 n] w fun e w' => e = .returned (.int .i64 0) ∧ ∃ u', Wst b0 w' g (putW n.toNat 0 s v).b (putW n.toNat 0 s v).p (putW n.toNat 0 s v).i u' ∧ Wto b0 w g u w' u' := by
  have HW := Aside0.mk h
  have HS := Aside0.mk hs
  have HF := Aside0.mk hf
  clear h hf hs
  go_enter Try.func12, Try.ntmps12
  go_wp2_with ((with_reducible refine gate_callee (f := 36) rfl ?_); refine gate_guard (by rfl) ?_; dsimp only; refine goesL_ (some 13) rfl rfl Try.func36 (by kernel_rfl) rfl #[.int .i64 v, .int .i64 n, .int .i64 24] rfl (by (try simp only [List.map_toArray, List.map_cons, List.map_nil]); first | done | rfl) ?_; refine (bits_fits.calls v n 24 true _ HF.out).mono ?_; rintro e w1 ⟨rfl, hd⟩; refine ⟨_, rfl, ?_⟩; have HD := Aside0.mk hd; clear hd)
  have h0 : Wto b0 w g u w1 u := Wto.drawn (HD.out.below.mono hbw) HD.out.below
  have H0 := Aside0.mk (show ∃ u', Wst b0 w1 g s.b s.p s.i u' ∧ Wto b0 w g u w1 u' from ⟨u, HW.out.below HD.out.below, h0⟩)
  clear h0 HD
  go_loopw [17] (fun v17 wr => ∃ (i d : Nat) (t : BW) (ut : Value), v17 = .int .i64 (i : Int) ∧ i + d = n.toNat ∧ Aside0 (putW d i t v = putW n.toNat 0 s v) ∧ Aside0 (t.ok (800000000 + i)) ∧ Aside0 (Wst b0 wr g t.b t.p t.i ut) ∧ Aside0 (Wto b0 w g u wr ut)) (fun v17 _ => n.toNat - (intOf v17).toNat)
  case atStart =>
    obtain ⟨u', h1, h2⟩ := H0.out
    exact ⟨0, n.toNat, s, u', rfl, by omega, ⟨rfl⟩, HS, ⟨h1⟩, ⟨h2⟩⟩
  case round =>
    clear H0
    obtain ⟨i, d, t, ut, rfl, hid, HI, HT, HU, HO⟩ := hrel
    by_cases hlt : (i : Int) < n
    · obtain ⟨d, rfl⟩ : ∃ d', d = d' + 1 := ⟨d - 1, by omega⟩
      have dlt : decide ((i : Int) < n) = true := decide_eq_true hlt
      have d0 : decide (0 ≤ (i : Int)) = true := decide_eq_true (by omega)
      have d1 : decide ((i : Int) < 0) = false := decide_eq_false (by omega)
      go_wp2_with ((with_reducible refine gate_callee (f := 37) rfl ?_); refine goesL_ (some 24) rfl rfl Try.func37 (by kernel_rfl) rfl #[.pointer (some ⟨g, 0, none⟩), .int .i64 (v / 2 ^ i)] rfl (by (try simp only [List.map_toArray, List.map_cons, List.map_nil]); first | done | rfl) ?_; refine (bits_Writer_bit.to g t (v / 2 ^ i) ut _ b0 (Nat.le_trans hbw HO.out.kept.1) HU.out ⟨HT.out.1, HT.out.2.1, by have := HT.out.2.2; omega⟩).mono ?_; rintro e w2 ⟨rfl, u2, h1, h2⟩; refine ⟨_, rfl, ?_⟩; have HU2 := Aside0.mk h1; have HO2 := Aside0.mk (HO.out.trans h2); clear h1 h2)
      go_roundw
      case rel =>
        have e := HI.out
        rw [putW] at e
        exact ⟨i + 1, d, bitW t (v / 2 ^ i), u2, congrArg (Value.int .i64) (by omega), by omega, ⟨e⟩, ⟨bitW.ok HT.out _⟩, HU2, HO2⟩
      case measure =>
        simp [intOf]
        omega
    · have hzn : d = 0 := by omega
      subst hzn
      have dlt : decide ((i : Int) < n) = false := decide_eq_false hlt
      go_wp2
      go_ret
      have e := HI.out
      rw [putW] at e
      rw [← e]
      exact ⟨rfl, ut, HU.out, HO.out⟩
set_option maxHeartbeats 4000000 in
set_option maxRecDepth 100000 in
theorem bits_Writer_Put.refuses (g : Nat) (v n : Int) (w : World) (hf : bits_fits.f v n 24 = some false) :
    Calls Try.prog 12 #[.pointer (some ⟨g, 0, none⟩), .int .i64 v, .int .i64 n] w fun e w' => e = .returned (.int .i64 1) ∧ Drawn0 w w' := by
  have HF := Aside0.mk hf
  clear hf
  go_enter Try.func12, Try.ntmps12
  go_wp2_with ((with_reducible refine gate_callee (f := 36) rfl ?_); refine gate_guard (by rfl) ?_; dsimp only; refine goesL_ (some 13) rfl rfl Try.func36 (by kernel_rfl) rfl #[.int .i64 v, .int .i64 n, .int .i64 24] rfl (by (try simp only [List.map_toArray, List.map_cons, List.map_nil]); first | done | rfl) ?_; refine (bits_fits.calls v n 24 false _ HF.out).mono ?_; rintro e w1 ⟨rfl, hd⟩; refine ⟨_, rfl, ?_⟩; have HD := Aside0.mk hd; clear hd)
  go_ret
  exact ⟨rfl, HD.out⟩
set_option maxHeartbeats 4000000 in
set_option maxRecDepth 100000 in
theorem bits_Writer_Put.nil (v n : Int) (w : World) :
    Calls Try.prog 12 #[.pointer none, .int .i64 v, .int .i64 n] w fun e w' => e = .returned (.int .i64 1) ∧ Drawn0 w w' := by
  go_enter Try.func12, Try.ntmps12
  go_wp2
  go_ret
  exact ⟨rfl, Drawn0.refl _⟩
/-- d bits of v below the i-th, the highest first. -/
def codeW : Nat → BW → Int → BW
  | 0, s, _ => s
  | d + 1, s, v => codeW d (bitW s (v / 2 ^ d)) v
set_option maxHeartbeats 4000000 in
set_option maxRecDepth 100000 in
theorem bits_Writer_Code.calls (g : Nat) (s : BW) (v n : Int) (u : Value) (w : World) (b0 : Nat) (hbw : b0 ≤ w.heap.size) (h : Wst b0 w g s.b s.p s.i u) (hs : s.ok 800000000)
    (hn : 0 ≤ n) (hn2 : n ≤ 15) (hf : bits_fits.f v n 15 = some true) :
    Calls Try.prog 17 #[.pointer (some ⟨g, 0, none⟩), .int .i64 v, .int .i64 n] w fun e w' => e = .returned (.int .i64 0) ∧ ∃ u', Wst b0 w' g (codeW n.toNat s v).b (codeW n.toNat s v).p (codeW n.toNat s v).i u' ∧ Wto b0 w g u w' u' := by
  have HW := Aside0.mk h
  have HS := Aside0.mk hs
  have HF := Aside0.mk hf
  clear h hf hs
  have hw1 : wrap64 (n - 1) = n - 1 := by unfold wrap64; omega
  go_enter Try.func17, Try.ntmps17
  go_wp2_with ((with_reducible refine gate_callee (f := 36) rfl ?_); refine gate_guard (by rfl) ?_; dsimp only; refine goesL_ (some 13) rfl rfl Try.func36 (by kernel_rfl) rfl #[.int .i64 v, .int .i64 n, .int .i64 15] rfl (by (try simp only [List.map_toArray, List.map_cons, List.map_nil]); first | done | rfl) ?_; refine (bits_fits.calls v n 15 true _ HF.out).mono ?_; rintro e w1 ⟨rfl, hd⟩; refine ⟨_, rfl, ?_⟩; have HD := Aside0.mk hd; clear hd)
  have h0 : Wto b0 w g u w1 u := Wto.drawn (HD.out.below.mono hbw) HD.out.below
  have H0 := Aside0.mk (show ∃ u', Wst b0 w1 g s.b s.p s.i u' ∧ Wto b0 w g u w1 u' from ⟨u, HW.out.below HD.out.below, h0⟩)
  clear h0 HD
  go_loopw [7] (fun v7 wr => ∃ (d : Nat) (t : BW) (ut : Value), v7 = .int .i64 ((d : Int) - 1) ∧ (d : Int) ≤ n ∧ Aside0 (codeW d t v = codeW n.toNat s v) ∧ Aside0 (t.ok (800000000 + (n.toNat - d))) ∧ Aside0 (Wst b0 wr g t.b t.p t.i ut) ∧ Aside0 (Wto b0 w g u wr ut)) (fun v7 _ => (intOf v7 + 1).toNat)
  case atStart =>
    obtain ⟨u', h1, h2⟩ := H0.out
    refine ⟨n.toNat, s, u', congrArg (Value.int .i64) (by omega), by omega, ⟨rfl⟩, ⟨?_⟩, ⟨h1⟩, ⟨h2⟩⟩
    rw [Nat.sub_self]
    exact HS.out
  case round =>
    clear H0
    obtain ⟨d, t, ut, rfl, hid, HI, HT, HU, HO⟩ := hrel
    by_cases hlt : 0 < d
    · obtain ⟨d, rfl⟩ : ∃ d', d = d' + 1 := ⟨d - 1, by omega⟩
      rw [show (((d + 1 : Nat) : Int) - 1) = (d : Int) by omega]
      have dlt : decide (0 ≤ (d : Int)) = true := decide_eq_true (by omega)
      have d1 : decide ((d : Int) < 0) = false := decide_eq_false (by omega)
      have hw2 : wrap64 ((d : Int) - 1) = (d : Int) - 1 := by unfold wrap64; omega
      go_wp2_with ((with_reducible refine gate_callee (f := 37) rfl ?_); refine goesL_ (some 26) rfl rfl Try.func37 (by kernel_rfl) rfl #[.pointer (some ⟨g, 0, none⟩), .int .i64 (v / 2 ^ d)] rfl (by (try simp only [List.map_toArray, List.map_cons, List.map_nil]); first | done | rfl) ?_; refine (bits_Writer_bit.to g t (v / 2 ^ d) ut _ b0 (Nat.le_trans hbw HO.out.kept.1) HU.out ⟨HT.out.1, HT.out.2.1, by have := HT.out.2.2; omega⟩).mono ?_; rintro e w2 ⟨rfl, u2, h1, h2⟩; refine ⟨_, rfl, ?_⟩; have HU2 := Aside0.mk h1; have HO2 := Aside0.mk (HO.out.trans h2); clear h1 h2)
      go_roundw
      case rel =>
        have e := HI.out
        rw [codeW] at e
        refine ⟨d, bitW t (v / 2 ^ d), u2, congrArg (Value.int .i64) (by omega), by omega, ⟨e⟩, ⟨?_⟩, HU2, HO2⟩
        have k := bitW.ok HT.out (v / 2 ^ d)
        rw [show 800000000 + (n.toNat - d) = 800000000 + (n.toNat - (d + 1)) + 1 by omega]
        exact k
      case measure =>
        simp [intOf]
        try omega
    · have hzn : d = 0 := by omega
      subst hzn
      have dlt : decide (0 ≤ ((0 : Nat) : Int) - 1) = false := decide_eq_false (by omega)
      go_wp2
      go_ret
      have e := HI.out
      rw [codeW] at e
      rw [← e]
      exact ⟨rfl, ut, HU.out, HO.out⟩
/-- Noughts up to the next edge. -/
def alignW : Nat → BW → BW
  | 0, s => s
  | d + 1, s => if s.i = 0 then s else alignW d (bitW s 0)
def inLeft (g : Nat) (w : World) : Nat := match w.cell? ⟨g, 2, none⟩ with
  | some (.int _ x) => if x = 0 then 0 else (8 - x).toNat
  | _ => 0
theorem inLeft_of {b0 : Nat} {w : World} {g : Nat} {b : List Int} {p i : Int} {u : Value} (h : Wst b0 w g b p i u) : inLeft g w = if i = 0 then 0 else (8 - i).toNat := by
  unfold inLeft
  rw [show w.cell? ⟨g, 2, none⟩ = some (.int .i64 i) from blk_cell h.blk 2]
set_option maxHeartbeats 4000000 in
set_option maxRecDepth 100000 in
theorem bits_Writer_Align.calls (g : Nat) (s : BW) (u : Value) (w : World) (b0 : Nat) (hbw : b0 ≤ w.heap.size) (h : Wst b0 w g s.b s.p s.i u) (hs : s.ok 800000000) :
    Calls Try.prog 19 #[.pointer (some ⟨g, 0, none⟩)] w fun e w' => e = .returned (.tuple #[]) ∧ ∃ u', Wst b0 w' g (alignW 8 s).b (alignW 8 s).p (alignW 8 s).i u' ∧ Wto b0 w g u w' u' := by
  have H0 := Aside0.mk h
  have HS := Aside0.mk hs
  clear h hs
  go_enter Try.func19, Try.ntmps19
  go_wp2
  go_loopw [] (fun wr => ∃ (d : Nat) (t : BW) (ut : Value), (t.i = 0 ∨ 8 ≤ t.i + d) ∧ d ≤ 8 ∧ Aside0 (alignW d t = alignW 8 s) ∧ Aside0 (t.ok (800000000 + (8 - d))) ∧ Aside0 (Wst b0 wr g t.b t.p t.i ut) ∧ Aside0 (Wto b0 w g u wr ut)) (fun wr => inLeft g wr)
  case atStart =>
    exact ⟨8, s, u, by have := HS.out.1; omega, by omega, ⟨rfl⟩, HS, H0, ⟨Wto.refl⟩⟩
  case round =>
    clear H0
    obtain ⟨d, t, ut, hd, hd8, HI, HT, HU, HO⟩ := hrel
    have c2 : wr.cell? ⟨g, 2, none⟩ = some (.int .i64 t.i) := blk_cell HU.out.blk 2
    have f2 := blk_frozen HU.out.blk 2
    have q0 := blk_lt HU.out.blk
    have t0 := HT.out.1
    have t8 := HT.out.2.1
    by_cases hz : t.i = 0
    · have dlt : decide (0 < t.i) = false := decide_eq_false (by omega)
      clear t0 t8 hd
      go_wp2
      refine bodyPost_end (results_none rfl _ _ _) rfl ?_
      have e := HI.out
      have e2 : alignW d t = t := by cases d with
        | zero => rfl
        | succ d => rw [alignW, if_pos hz]
      rw [← e, e2]
      exact ⟨rfl, ut, HU.out, HO.out⟩
    · have dlt : decide (0 < t.i) = true := decide_eq_true (by omega)
      obtain ⟨d, rfl⟩ : ∃ d', d = d' + 1 := ⟨d - 1, by omega⟩
      have HH := Aside0.mk hz
      have HD := Aside0.mk hd
      have HT8 := Aside0.mk (And.intro t0 t8)
      clear hz hd t0 t8
      go_wp2_with ((with_reducible refine gate_callee (f := 37) rfl ?_); refine goesL_ (some 12) rfl rfl Try.func37 (by kernel_rfl) rfl #[.pointer (some ⟨g, 0, none⟩), .int .i64 0] rfl (by (try simp only [List.map_toArray, List.map_cons, List.map_nil]); first | done | rfl) ?_; refine (bits_Writer_bit.to g t 0 ut _ b0 (Nat.le_trans hbw HO.out.kept.1) HU.out ⟨HT.out.1, HT.out.2.1, by have := HT.out.2.2; omega⟩).mono ?_; rintro e w2 ⟨rfl, u2, h1, h2⟩; refine ⟨_, rfl, ?_⟩; have HU2 := Aside0.mk h1; have HO2 := Aside0.mk (HO.out.trans h2); clear h1 h2)
      simp only [Act.put, List.setIfInBounds_toArray, List.set_cons_zero, List.set_cons_succ]
      go_roundw
      case rel =>
        have e := HI.out
        rw [alignW, if_neg HH.out] at e
        have k := bitW.ok HT.out 0
        refine ⟨d, bitW t 0, u2, ?_, by omega, ⟨e⟩, ⟨?_⟩, HU2, HO2⟩
        · have := HD.out
          have := HH.out
          show bitI t.i = 0 ∨ 8 ≤ bitI t.i + d
          unfold bitI
          split <;> omega
        · rw [show 800000000 + (8 - d) = 800000000 + (8 - (d + 1)) + 1 by omega]
          exact k
      case measure =>
        rw [inLeft_of HU2.out, inLeft_of HU.out, if_neg HH.out]
        have := HT8.out
        show (if bitI t.i = 0 then 0 else (8 - bitI t.i).toNat) < (8 - t.i).toNat
        unfold bitI
        split <;> split <;> omega
set_option maxHeartbeats 4000000 in
theorem bits_Writer_Align.nil (w : World) : Calls Try.prog 19 #[.pointer none] w fun e w' => e = .returned (.tuple #[]) ∧ Drawn0 w w' := by
  go_enter Try.func19, Try.ntmps19
  go_wp2
  go_loopw [] (fun wr => Aside0 (Drawn0 w wr)) (fun wr => 0)
  case atStart => exact ⟨Drawn0.refl _⟩
  case round =>
    go_wp2
    refine bodyPost_end (results_none rfl _ _ _) rfl ?_
    exact ⟨rfl, hrel.out⟩
set_option maxHeartbeats 4000000 in
set_option maxRecDepth 100000 in
theorem bytes_Clone.calls (A0 : Option Addr) (c0 : Nat) (l0 : List Int) (w : World) (hr0 : Kd.C (Kd.int .u8) w A0 l0.length l0) (hc0 : l0.length ≤ c0) (hl : l0.length < 140737488355328) :
    Calls Try.prog 38 #[.slice A0 l0.length c0] w fun e w' => ∃ v0_ : Value, e = .returned v0_ ∧ Kd.R (Kd.int .u8) 5 w' w.heap.size (fun _ => True) v0_ l0 ∧ Below w.heap.size w w' := by
  have HR0 := Aside0.mk hr0
  have HB := Aside0.mk (Below.refl w.heap.size w)
  clear hr0
  cases A0 with
  | none =>
    have hz : l0 = [] := by
      cases l0 with
      | nil => rfl
      | cons x xs =>
        obtain ⟨ad, he, _⟩ := HR0.out.2.2 (by simp)
        cases he
    subst hz
    clear HR0
    have hq := fun W => Go.run_eql_slice_nil (P := Try.prog) W 29 5 none 0 c0 Try.underlying29
    go_enter Try.func38, Try.ntmps38
    go_wp2
    go_ret
    exact ⟨_, rfl, Kd.R_nil _ _ _ _ _, HB.out⟩
  | some ad =>
    have hq := fun W => Go.run_eql_slice_nil (P := Try.prog) W 29 5 (some ad) l0.length c0 Try.underlying29
    go_enter Try.func38, Try.ntmps38
    go_wp2_with (first | ((with_reducible refine gate_dst (N := 5) rfl ?_); refine Kd.R_lit (Kd.int .u8) _ 5 ?hg (N := 5) ?hd (xs := ([] : List Int)) (inner := []) (ok := fun _ => True) (okp := fun _ => True) ?hr ?hp (fun _ hk => hk) trivial (Below.refl _ _) (Nat.le_refl _) (by simp) ?_; (case hd => rfl); (case hg => rfl); (case hr => first | (go_simp; done) | (go_simp; rfl)); (case hp => exact (Reps.none _ _)); intro v1 w1 ho9 hb hg_ hnew_; clear hg_ hnew_; have HO1 := Aside0.mk (Kd.R_lower ho9 HB.out.size); have HB1 := Aside0.mk (HB.out.trans (hb.mono HB.out.size)); clear hb ho9) | ((with_reducible refine gate_builtin (b := .append) (xs := #[.tmp 5, .tmp 6]) rfl ?_); at_builtin; refine Kd.R_append_rows (Kd.int .u8) (w0 := w) w.heap.size rfl (.tmp 5) (.tmp 6) 29 5 (.int .u8 0) 1 rfl Try.underlying29 info5B rfl (by decide) (by omega) v1 [] l0 _ _ _ (fun _ => True) (fun _ => False) rfl rfl ?aO ?aR (fun _ _ h => h) (fun _ h => h.elim) ?aF ?aB ?aS ?aL ?_; (case aR => exact Kd.C_below HR0.out HB1.out); (case aB => exact HB1.out); (case aF => exact (fun _ _ => trivial)); (case aO => exact HO1.out); (case aS => exact HB1.out.size); (case aL => simp; omega); intro v2 w2 ho hb hg hat; have HB2 := Aside0.mk (hb); have HO2 := Aside0.mk (ho); clear ho hb hg hat))
    go_ret
    exact ⟨_, rfl, HO2.out, HB2.out⟩
def bytesW (s : BW) : List Int := if 0 < s.i then s.b ++ [s.p] else s.b
set_option maxHeartbeats 4000000 in
set_option maxRecDepth 100000 in
theorem bits_Writer_Bytes.calls (g : Nat) (s : BW) (u : Value) (w : World) (b0 : Nat) (h : Wst b0 w g s.b s.p s.i u) (hl : s.b.length < 1000000000) :
    Calls Try.prog 14 #[.pointer (some ⟨g, 0, none⟩)] w fun e w' => ∃ v0_ : Value, e = .returned v0_ ∧ Kd.R (Kd.int .u8) 5 w' w.heap.size (fun _ => True) v0_ (bytesW s) ∧ Below w.heap.size w w' := by
  obtain ⟨Au, cu, eu⟩ := Kd.R_slice h.row
  subst eu
  have HU := Aside0.mk h
  have HB := Aside0.mk (Below.refl w.heap.size w)
  have c0 : w.cell? ⟨g, 0, none⟩ = some (.slice Au s.b.length cu) := blk_cell h.blk 0
  have q0 := blk_lt h.blk
  clear h
  have HR := Aside0.mk (Kd.R_reads' HU.out.row)
  by_cases hz : 0 < s.i
  all_goals
    have HZ := Aside0.mk hz
    first
      | (have dlt : decide (0 < s.i) = true := decide_eq_true hz
         clear hz)
      | (have dlt : decide (0 < s.i) = false := decide_eq_false hz
         clear hz)
    go_enter Try.func14, Try.ntmps14
    go_wp2_with (first | ((with_reducible refine gate_callee (f := 38) rfl ?_); refine goesL_ (some 10) rfl rfl Try.func38 (by kernel_rfl) rfl #[.slice Au s.b.length cu] rfl (by (try simp only [List.map_toArray, List.map_cons, List.map_nil]); first | done | rfl) ?_; refine (bytes_Clone.calls Au cu s.b _ HR.out.2.2 HR.out.2.1 (by omega)).mono ?_; rintro e w1 ⟨v1, rfl, h1, h2⟩; refine ⟨_, rfl, ?_⟩; have HO1 := Aside0.mk h1; have HB1 := Aside0.mk h2; clear h1 h2; have c1 : w1.cell? ⟨g, 1, none⟩ = some (.int .u8 s.p) := blk_cell ((HB1.out.block g q0).trans HU.out.blk) 1; have c2 : w1.cell? ⟨g, 2, none⟩ = some (.int .i64 s.i) := blk_cell ((HB1.out.block g q0).trans HU.out.blk) 2; have q1 : g < w1.heap.size := Nat.lt_of_lt_of_le q0 HB1.out.size) | ((with_reducible refine gate_builtin (b := .append) (xs := #[.tmp 16, .tmp 21]) rfl ?_); at_builtin; refine Kd.R_append (Kd.int .u8) (w0 := w) w.heap.size rfl (.tmp 16) (.tmp 21) 29 5 (.int .u8 0) 1 rfl Try.underlying29 info5B rfl (by decide) (by omega) v1 s.b s.p [.int .u8 s.p] (fun _ => True) (fun _ => False) rfl rfl ?aP (fun _ hk => hk.elim) ?aF ?aO ?aB ?aS ?aL ?_; (case aP => exact rfl); (case aB => exact HB1.out); (case aF => exact (fun _ _ => trivial)); (case aO => exact HO1.out); (case aS => exact HB1.out.size); (case aL => omega); intro v2 w2 ho hb hg hat; have HB2 := Aside0.mk (hb); have HO2 := Aside0.mk (ho); clear ho hb hg hat))
    go_ret
  · refine ⟨_, rfl, ?_, HB2.out⟩
    unfold bytesW
    rw [if_pos HZ.out]
    exact HO2.out
  · refine ⟨_, rfl, ?_, HB1.out⟩
    unfold bytesW
    rw [if_neg (Int.not_lt.mpr HZ.out)]
    exact HO1.out
set_option maxHeartbeats 4000000 in
theorem bits_Writer_Bytes.nil (w : World) : Calls Try.prog 14 #[.pointer none] w fun e w' => e = .returned (.slice none 0 0) ∧ Drawn0 w w' := by
  go_enter Try.func14, Try.ntmps14
  go_wp2
  go_ret
  exact ⟨rfl, Drawn0.refl _⟩
set_option maxHeartbeats 4000000 in
theorem bits_New.made (w : World) : Calls Try.prog 11 #[] w fun e w' => e = .returned (.pointer (some ⟨w.heap.size, 0, none⟩)) ∧ Wst w.heap.size w' w.heap.size [] 0 0 (.slice none 0 0) ∧ Below w.heap.size w w' ∧ w'.heap.size = w.heap.size + 1 := by
  go_enter Try.func11, Try.ntmps11
  go_wp2
  go_ret
  refine ⟨rfl, ⟨blk_new w _, Kd.R_nil _ _ _ _ _, Nat.le_refl _⟩, below_alloc (Below.refl _ _) _, by simp⟩
end Go.Proofs.Ytblneonbilbaiaa.PA
