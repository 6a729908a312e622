/- Lengths of codes for counts: what huff.Lengths computes. The condition (fewer than ten symbols that come at all) stands in the function itself. -/
import Derived.Test.YtachnclfgjdglaaSums
namespace Go.Proofs.Ytachnclfgjdglaa.Coin
open Go.RowKit Go.Sort Go.Proofs.YtachnclfgjdglaaW.PrintWords Go.Proofs.YtachnclfgjdglaaW.PrintLast Go.Proofs.YtachnclfgjdglaaW.PrintMore Go.Proofs.YtachnclfgjdglaaSrt
set_option linter.unusedVariables false
set_option linter.unusedSimpArgs false

/-- a row of one number, new -/
theorem one_row (w : World) (x : Int) (base : Nat) (hb : base ≤ w.heap.size) : Kd.R (Kd.int .i64) 3 (w.alloc (.cells #[.int .i64 x] 3)) base (fun _ => True) (.slice (some ⟨w.heap.size, 0, none⟩) 1 1) [x] := by
  have h := own_lit w base 3 .i64 [x] hb (by simp)
  exact Kd.R_of_own h (fun _ _ => trivial)
theorem pow_small (a : Int) (h : 1 ≤ a ∧ a ≤ 15) : IntKind.i64.wrap (1 * 2 ^ min a.toNat 64) = 2 ^ a.toNat ∧ IntKind.i64.wrap (2 ^ min a.toNat 64) = 2 ^ a.toNat ∧ IntKind.i64.wrap (1 * 2 ^ a.toNat) = 2 ^ a.toNat ∧ IntKind.i64.wrap (2 ^ a.toNat) = 2 ^ a.toNat ∧ wrap64 (1 * 2 ^ min a.toNat 64) = 2 ^ a.toNat ∧ wrap64 (2 ^ min a.toNat 64) = 2 ^ a.toNat ∧ wrap64 (1 * 2 ^ a.toNat) = 2 ^ a.toNat ∧ wrap64 (2 ^ a.toNat) = 2 ^ a.toNat := by
  obtain ⟨n, rfl⟩ := Int.eq_ofNat_of_zero_le (by omega : 0 ≤ a)
  have hn : n ≤ 15 := by omega
  have key : ∀ n : Fin 16, wrap64 (2 ^ n.val) = 2 ^ n.val ∧ IntKind.i64.wrap (2 ^ n.val) = 2 ^ n.val := by decide +kernel
  obtain ⟨h1, h2⟩ := key ⟨n, by omega⟩
  simp only [Int.toNat_natCast, Nat.min_eq_left (by omega : n ≤ 64), Int.one_mul]
  exact ⟨h2, h2, h2, h2, h1, h1, h1, h1⟩
set_option maxHeartbeats 8000000 in
set_option maxRecDepth 100000 in
theorem lengths (A0 : Option Addr) (c0 : Nat) (l0 : List Int) (a1 : Int) (r1 : List Int) (r2 : Int) (w : World) (hr0 : Kd.C (Kd.int .i64) w A0 l0.length l0) (h : lensF l0 a1 = some (r1, r2)) :
    Calls Try.prog 18 #[.slice A0 l0.length c0, .int .i64 a1] w fun e w' => ∃ v0_ : Value, e = .returned (.tuple #[v0_, .int .i64 r2]) ∧ Kd.R (Kd.int .i64) 3 w' w.heap.size (fun _ => True) v0_ r1 ∧ Below w.heap.size w w' := by
  have HR := Aside0.mk hr0
  unfold lensF at h
  by_cases hbad : (l0.length : Int) > 320 ∨ a1 < 1 ∨ a1 > 15
  · rw [if_pos hbad] at h
    simp only [Option.some.injEq, Prod.mk.injEq] at h
    obtain ⟨rfl, rfl⟩ := h
    by_cases c1 : (l0.length : Int) > 320
    · have d1 : decide ((l0.length : Int) > 320) = true := decide_eq_true c1
      clear hbad hr0
      go_enter Try.func18, Try.ntmps18
      go_wp2
      go_ret2
      exact ⟨_, rfl, Kd.R_nil _ _ _ _ _, Below.refl _ _⟩
    have d1 : decide ((l0.length : Int) > 320) = false := decide_eq_false c1
    by_cases c2 : a1 < 1
    · have d2 : decide (a1 < 1) = true := decide_eq_true c2
      clear hbad hr0
      go_enter Try.func18, Try.ntmps18
      go_wp2
      go_ret2
      exact ⟨_, rfl, Kd.R_nil _ _ _ _ _, Below.refl _ _⟩
    have d2 : decide (a1 < 1) = false := decide_eq_false c2
    have c3 : a1 > 15 := by omega
    have d3 : decide (a1 > 15) = true := decide_eq_true c3
    clear hbad hr0
    go_enter Try.func18, Try.ntmps18
    go_wp2
    go_ret2
    exact ⟨_, rfl, Kd.R_nil _ _ _ _ _, Below.refl _ _⟩
  rw [if_neg hbad] at h
  have c1 : ¬ (l0.length : Int) > 320 := by omega
  have c2 : ¬ a1 < 1 := by omega
  have c3 : ¬ a1 > 15 := by omega
  have d1 : decide ((l0.length : Int) > 320) = false := decide_eq_false c1
  have d2 : decide (a1 < 1) = false := decide_eq_false c2
  have d3 : decide (a1 > 15) = false := decide_eq_false c3
  have HH := Aside0.mk h
  have HN := Aside0.mk (show l0.length ≤ 320 ∧ 1 ≤ a1 ∧ a1 ≤ 15 by omega)
  clear h hbad hr0 c1 c2 c3
  go_enter Try.func18, Try.ntmps18
  go_wp2
  clear d1 d2 d3
  go_loopg [6, 7, 8, 28] l0.length (fun gg v6 _ _ v28 wr => ∃ (k : Nat) (v : Value) (l : List Cq), k ≤ l0.length ∧ l0.length - k ≤ gg ∧ v28 = .int .i64 k ∧ v6 = v ∧ l.length ≤ k ∧ Aside0 (sgl l0 k = some (l.map pr)) ∧ Aside0 (Kd.R kCq 52 wr w.heap.size (fun _ => True) v l) ∧ Aside0 (Good (fun _ => True) wr l) ∧ Aside0 (Below w.heap.size w wr))
  case atStart => exact ⟨0, _, [], by omega, by omega, rfl, rfl, Nat.le_refl _, ⟨rfl⟩, ⟨Kd.R_nil _ _ _ _ _⟩, ⟨fun x hx => by cases hx⟩, ⟨Below.refl _ _⟩⟩
  case round =>
    obtain ⟨k, v, l, hk, hgg, rfl, rfl, hlk, HS, HV, HG, HB⟩ := hrel
    by_cases hlt : k < l0.length
    case neg =>
      have hke : k = l0.length := by omega
      subst hke
      have hd1 : decide ((l0.length : Int) < (l0.length : Int)) = false := decide_eq_false (by omega)
      have HLK := Aside0.mk hlk
      clear hk hgg hlt hlk
      obtain ⟨A1, c1, e1⟩ := Kd.R_slice HV.out
      subst e1
      have hh := HH.out
      rw [HS.out] at hh
      simp only [List.length_map] at hh
      have hpw := pow_small a1 HN.out.2
      obtain ⟨p2, hp2⟩ : ∃ p2 : Int, p2 = 2 ^ a1.toNat := ⟨_, rfl⟩
      rw [← hp2] at hpw hh
      obtain ⟨s1, s2, s3, s4, s5, s6, s7, s8⟩ := hpw
      have s0 : (0 ≤ a1) = True := eq_true (by have := HN.out.2.1; omega)
      have s9 : decide (0 ≤ a1) = true := decide_eq_true (by have := HN.out.2.1; omega)
      have HP2 := Aside0.mk hp2
      clear hp2
      by_cases c1 : (l.length : Int) > p2
      · rw [if_pos c1] at hh
        simp only [Option.some.injEq, Prod.mk.injEq] at hh
        obtain ⟨rfl, rfl⟩ := hh
        have d1 : decide ((l.length : Int) > p2) = true := decide_eq_true c1
        clear c1
        go_wp2
        go_ret2
        exact ⟨_, rfl, Kd.R_nil _ _ _ _ _, HB.out⟩
      rw [if_neg c1] at hh
      have d1 : decide ((l.length : Int) > p2) = false := decide_eq_false c1
      have hmk := print_make_int (P := Try.prog) 22 3 (.int .i64 0) 8 Try.underlying22 inf3 rfl (by decide) (l0.length : Int) (by omega) (by have := HN.out.1; omega)
      rw [Int.toNat_natCast] at hmk
      have HHH := Aside0.mk hh
      have HC1 := Aside0.mk c1
      clear hh c1
      have HC := Aside0.mk (Kd.R_reads' HV.out)
      have HL0 := Aside0.mk (Kd.R_of_own (enc := Value.int .i64) (h1 := fun _ => rfl) (ok := fun _ => True) (own_made' wr w.heap.size 3 .i64 l0.length (below_size HB.out) (by have := HN.out.1; omega)) (fun _ _ => trivial))
      by_cases m1 : l.length = 1
      · have hh := HHH.out
        rw [if_pos (by omega)] at hh
        simp only [Option.some.injEq, Prod.mk.injEq] at hh
        obtain ⟨hr1, rfl⟩ := hh
        have HR1 := Aside0.mk hr1
        have dm1 : ((l.length : Int) == 1) = true := beq_iff_eq.mpr (by omega)
        have dm2 : decide ((l.length : Int) < 2) = true := decide_eq_true (by omega)
        have hm2z : (l.length : Int) < 2 := by omega
        have hm1z : (0 : Int) < (l.length : Int) := by omega
        have hm1n : 0 < l.length := by omega
        obtain ⟨x, hlx⟩ : ∃ x, l = [x] := List.length_eq_one_iff.1 m1
        obtain ⟨i, hil, his⟩ : ∃ i : Nat, i < l0.length ∧ x.s = [(i : Int)] := sgl_one l0.length (l.map pr) HS.out (pr x) (by rw [hlx]; simp)
        obtain ⟨ad, c, e, _, hK, hcc⟩ := Kd.C_get HC.out.2.2 default (0 : Int) (by omega) (by omega)
        cases e
        have hgd : l.getD 0 default = x := by rw [hlx]; rfl
        rw [show (0 : Int).toNat = 0 from rfl] at hcc hK
        rw [hgd] at hK
        have hx1 := hcc 1 (.slice x.a 1 x.c) (by rw [hK, encQ, his]; rfl)
        rw [show kCq.sz = 2 from rfl, add_field _ _ 1 (by omega)] at hx1
        have hCx := (Kd.R_reads' (HG.out x (by rw [hlx]; exact List.mem_singleton.2 rfl))).2.2
        obtain ⟨adx, cx, ex, _, hKx, hccx⟩ := Kd.C_get hCx 0 (0 : Int) (by omega) (by rw [his]; simp)
        rw [show (0 : Int).toNat = 0 from rfl] at hccx hKx
        rw [show x.s.getD 0 0 = (i : Int) by rw [his]; rfl] at hKx
        obtain rfl : cx = [.int .i64 (i : Int)] := hKx
        have hxs := hccx 0 _ rfl
        rw [ex] at hx1
        have HX := Aside0.mk (And.intro hlx (And.intro hil his))
        have w6b : Below wr.heap.size wr (wr.alloc (.cells (madeCells #[.int .i64 0] l0.length) 3)) := below_alloc (Below.refl _ _) _
        have hx1' := (w6b.cell (World.block_lt_of_cell? wr _ hx1)).trans hx1
        have hxs' := (w6b.cell (World.block_lt_of_cell? wr _ hxs)).trans hxs
        have e0 : ad.add (0 * 2) = ad := by rw [Nat.zero_mul]; unfold Addr.add; simp
        have e1 : adx.add (0 * (Kd.int .i64).sz + 0) = adx := by rw [show 0 * (Kd.int .i64).sz + 0 = 0 by simp]; unfold Addr.add; simp
        rw [e0] at hx1'
        rw [e1] at hxs'
        obtain ⟨hsc2, hsf⟩ := Kd.R_cell (g := wr.heap.size) (cap := l0.length) 0 (show (Kd.int .i64).R 3 (wr.alloc (.cells (madeCells #[.int .i64 0] l0.length) 3)) w.heap.size (fun _ => True) (.slice (some ⟨wr.heap.size, 0, none⟩) (List.replicate l0.length (0 : Int)).length l0.length) (List.replicate l0.length 0) by rw [List.length_replicate]; exact HL0.out) (i : Int) (by omega) (by rw [List.length_replicate]; omega)
        rw [Int.toNat_natCast] at hsc2 hsf
        have hput := (Kd.R_put (g := wr.heap.size) (cap := l0.length) (show (Kd.int .i64).R 3 (wr.alloc (.cells (madeCells #[.int .i64 0] l0.length) 3)) w.heap.size (fun _ => True) (.slice (some ⟨wr.heap.size, 0, none⟩) (List.replicate l0.length (0 : Int)).length l0.length) (List.replicate l0.length 0) by rw [List.length_replicate]; exact HL0.out) (i : Int) 1).1
        rw [Int.toNat_natCast, List.length_replicate] at hput
        rw [World.setCell_alloc_new] at hput
        have HPUT := Aside0.mk hput
        have hiz : (i : Int) < (l0.length : Int) := by omega
        have hbs := below_size HB.out
        have HB6 := Aside0.mk ((below_alloc HB.out (.cells (madeCells #[.int .i64 0] l0.length) 3)).setCell (p := ⟨wr.heap.size, i, none⟩) hbs (.int .i64 1))
        rw [World.setCell_alloc_new] at HB6
        clear hput hbs hx1 hxs hccx hCx hcc hK hgd w6b e0 e1 m1 his hlx hil hr1 ex
        go_wp2
        go_ret2
        refine ⟨_, rfl, ?_, HB6.out⟩
        obtain ⟨hlx, hil, his⟩ := HX.out
        rw [← HR1.out, hlx]
        have e : cnt (List.replicate l0.length 0) ([x].map pr) = (List.replicate l0.length 0).set i 1 := by
          show bump _ x.s = _
          rw [his]
          show (List.replicate l0.length (0 : Int)).set (i : Int).toNat (wrap64 ((List.replicate l0.length (0 : Int)).getD (i : Int).toNat 0 + 1)) = _
          rw [Int.toNat_natCast, List.getD_eq_getElem?_getD, List.getElem?_replicate, if_pos hil]
          congr 1
          show wrap64 (0 + 1) = 1
          unfold wrap64
          decide
        rw [e]
        exact HPUT.out
      have hh := HHH.out
      have dm1 : ((l.length : Int) == 1) = false := beq_eq_false_iff_ne.mpr (by omega)
      by_cases m2 : l.length < 2
      · rw [if_pos m2] at hh
        simp only [Option.some.injEq, Prod.mk.injEq] at hh
        rw [List.length_eq_zero_iff.1 (show l.length = 0 by omega)] at hh
        obtain ⟨rfl, rfl⟩ := hh
        have dm2 : decide ((l.length : Int) < 2) = true := decide_eq_true (by omega)
        have hm2z : (l.length : Int) < 2 := by omega
        clear m1 m2
        go_wp2
        go_ret2
        exact ⟨_, rfl, HL0.out, below_alloc HB.out _⟩
      rw [if_neg m2] at hh
      have dm2 : decide ((l.length : Int) < 2) = false := decide_eq_false (by omega)
      have hm2z : ¬ (l.length : Int) < 2 := by omega
      have m3 : l.length ≤ 320 := by have := HLK.out; have := HN.out; omega
      simp only [Option.some.injEq, Prod.mk.injEq] at hh
      obtain ⟨hr1, rfl⟩ := hh
      have HR1 := Aside0.mk hr1
      have HM := Aside0.mk (And.intro (by omega : 2 ≤ l.length) m3)
      clear hr1
      obtain ⟨w6, hw6⟩ : ∃ w6, w6 = wr.alloc (.cells (madeCells #[.int .i64 0] l0.length) 3) := ⟨_, rfl⟩
      obtain ⟨g, hg⟩ : ∃ g, g = wr.heap.size := ⟨_, rfl⟩
      have HG6 := Aside0.mk (show Good (fun k => k ≠ g) w6 l from by rw [hw6]; exact (HG.out.apart (by omega)).below (below_alloc (Below.refl _ _) _))
      have HB6 := Aside0.mk (show Below w.heap.size w w6 from by rw [hw6]; exact below_alloc HB.out _)
      have HL6 := Aside0.mk (show Kd.R (Kd.int .i64) 3 w6 w.heap.size (fun _ => True) (.slice (some ⟨g, 0, none⟩) l0.length l0.length) (List.replicate l0.length 0) from by rw [hw6, hg]; exact HL0.out)
      have hmrg := merge A1 none c1 0 l [] w6 (by rw [hw6]; exact Kd.C_alloc HC.out.2.2 _) (Kd.C_nil _ _) HC.out.2.1 (by simp) (by omega) (by show l.length + 0 ≤ 100000; omega)
      rw [List.append_nil] at hmrg
      have HMRG := Aside0.mk hmrg
      have HGS := Aside0.mk (And.intro hg.symm hw6.symm)
      have HG66 := Aside0.mk (show g < w6.heap.size by rw [hw6, hg]; simp)
      clear hmrg m1 m2 m3 hg hw6
      obtain ⟨q, hq⟩ : ∃ q : Nat, q = a1.toNat - 1 := ⟨_, rfl⟩
      have HQ := Aside0.mk hq
      have hwq : wrap64 (a1 - 1) = (q : Int) := by have := HN.out; clear s1 s2 s3 s4 s5 s6 s7 s8; unfold wrap64; omega
      have HWQ := Aside0.mk hwq
      clear hq hwq
      go_wp2_with (go_at_call 31; rw [HGS.out.2]; refine HMRG.out.mono ?_; rintro e w7 ⟨v7, rfl, hv7, hb7⟩; have HV7 := Aside0.mk hv7; have HB7 := Aside0.mk hb7; clear hv7 hb7)
      rw [HGS.out.1]
      clear s0 s1 s2 s3 s4 s5 s6 s7 s8 s9 d1 dm1 dm2 hm2z hmk hd1
      obtain ⟨A7, c7, e7⟩ := Kd.R_slice HV7.out
      subst e7
      obtain ⟨S7, hS7⟩ : ∃ S7, S7 = srt ltQ l := ⟨_, rfl⟩
      rw [← hS7] at HV7 ⊢
      have hS7l : S7.length = l.length := by rw [hS7]; exact srt_length _ _
      have HS7 := Aside0.mk (show S7.map pr = srt ltP (l.map pr) by rw [hS7]; exact srt_map ltQ pr ltP (fun _ _ => rfl) l)
      have HG7 := Aside0.mk (show Good (fun k => k ≠ g) w7 S7 from by rw [hS7]; exact (HG6.out.below HB7.out).perm (srt_perm _ _))
      have HC7 := Aside0.mk (Kd.R_reads' HV7.out).2.2
      have HL7 := Aside0.mk (show S7.length ≤ c7 from (Kd.R_reads' HV7.out).2.1)
      have HM7 := Aside0.mk (show 2 ≤ S7.length ∧ S7.length ≤ 320 by rw [hS7l]; exact HM.out)
      have HBW := Aside0.mk (below_step HB6.out HB7.out)
      have hinv := sgl_inv l0.length (l.map pr) HS.out
      rw [List.length_map] at hinv
      have HRI := Aside0.mk (rows_inv (hinv.1.perm (l' := S7.map pr) (by rw [HS7.out]; exact srt_perm _ _)) (by omega))
      have HRL := Aside0.mk (rows_len (S7.map pr))
      have HSE := Aside0.mk hS7l
      rw [← hS7l] at HRI
      clear hinv hS7 hS7l
      go_loopg [10, 77] q (fun gg v10 v77 w8 => ∃ (k : Nat) (v : Value) (lk : List Cq), k ≤ q ∧ q - k ≤ gg ∧ v77 = .int .i64 k ∧ v10 = v ∧ Aside0 (lk.map pr = rows (S7.map pr) k) ∧ Aside0 (Kd.R kCq 52 w8 w.heap.size (fun _ => True) v lk) ∧ Aside0 (Good (fun k => k ≠ g) w8 lk) ∧ Aside0 (Below w7.heap.size w7 w8))
      case atStart => exact ⟨0, _, S7, by omega, by omega, rfl, rfl, ⟨rfl⟩, ⟨Kd.R_lower HV7.out (below_size HB6.out)⟩, HG7, ⟨Below.refl _ _⟩⟩
      case round =>
        obtain ⟨k, v, lk, hk, hgg, rfl, rfl, HP8, HV8, HG8, HB8⟩ := hrel
        obtain ⟨A8, c8, e8⟩ := Kd.R_slice HV8.out
        subst e8
        have hlk : lk.length = (rows (S7.map pr) k).length := by rw [← HP8.out, List.length_map]
        have hlk2 : lk.length ≤ 2 * S7.length := by rw [hlk]; have := HRL.out k; rwa [List.length_map] at this
        by_cases hlt : k < q
        case neg =>
          have hke : k = q := by omega
          subst hke
          have ht1 : 2 * S7.length - 2 ≤ lk.length := by
            have hn1 := HN.out
            have h1 := rows_enough (S7.map pr) a1.toNat (by omega) (by
              rw [List.length_map]
              have h2 := HC1.out
              rw [← HSE.out, HP2.out] at h2
              have h3 : ((2 : Int) ^ a1.toNat) = ((2 ^ a1.toNat : Nat) : Int) := by norm_cast
              omega)
            rw [List.length_map, ← HQ.out, ← hlk] at h1
            exact h1
          have ht2 := (Kd.R_reads' HV8.out).2.1
          obtain ⟨t, ht⟩ : ∃ t : Nat, t = 2 * S7.length - 2 := ⟨_, rfl⟩
          rw [← ht] at ht1
          have HT := Aside0.mk (And.intro ht ht1)
          have HW5 : Aside0 (wrap64 (wrap64 (2 * (S7.length : Int)) - 2) = (t : Int)) := ⟨by
            have hm := HM7.out
            have e1 : wrap64 (2 * (S7.length : Int)) = 2 * (S7.length : Int) := by unfold wrap64; omega
            rw [e1]
            unfold wrap64
            omega⟩
          have htc : t ≤ c8 := by omega
          have z1 : (t : Int) ≤ (c8 : Int) := by omega
          have z0 : (0 : Int) ≤ (t : Int) := by omega
          have hd1 : decide ((k : Int) < wrap64 (a1 - 1)) = false := decide_eq_false (by rw [HWQ.out]; omega)
          have hlz : ¬ (k : Int) < wrap64 (a1 - 1) := of_decide_eq_false hd1
          have hw5 := HW5.out
          clear hlk hlk2 hk hgg ht ht1 ht2 hlt
          go_wp2
          clear hw5 hd1 hlz z0 z1 htc
          go_loopg [12, 14, 91] t (fun gg _ _ v91 w4 => ∃ (j : Nat) (L : List Int), j ≤ t ∧ t - j ≤ gg ∧ v91 = .int .i64 j ∧ Aside0 (L = cnt (List.replicate l0.length 0) ((lk.map pr).take j)) ∧ Aside0 (L.length = l0.length) ∧ Aside0 (Kd.R kCq 52 w4 w.heap.size (fun _ => True) (.slice A8 lk.length c8) lk) ∧ Aside0 (Good (fun k => k ≠ g) w4 lk) ∧ Aside0 (Kd.R (Kd.int .i64) 3 w4 w.heap.size (fun _ => True) (.slice (some ⟨g, 0, none⟩) l0.length l0.length) L) ∧ Aside0 (Below w.heap.size w w4))
          case atStart => exact ⟨0, List.replicate l0.length 0, by omega, by omega, rfl, ⟨rfl⟩, ⟨List.length_replicate⟩, HV8, HG8, ⟨Kd.R_below (Kd.R_below HL6.out HB7.out) HB8.out⟩, ⟨below_step HBW.out HB8.out⟩⟩
          case round =>
            obtain ⟨j, L, hj, hgg, rfl, HLc, HLn, HV4, HG4, HL4, HB4⟩ := hrel
            by_cases hlt : j < t
            case neg =>
              have hje : j = t := by omega
              subst hje
              have hd1 : decide ((j : Int) < (j : Int)) = false := decide_eq_false (by omega)
              clear hj hgg hlt
              go_wp2
              go_ret2
              refine ⟨_, rfl, ?_, HB4.out⟩
              have e : L = r1 := by
                rw [HLc.out, ← HR1.out, HP8.out, HS7.out, HQ.out, HT.out.1, HSE.out]
              rw [← e]
              exact HL4.out
            have hd1 : decide ((j : Int) < (t : Int)) = true := decide_eq_true (by omega)
            have hjl : j < lk.length := by have := HT.out.2; omega
            have hjlz : (j : Int) < (t : Int) := by omega
            obtain ⟨_, hcap, hC4⟩ := Kd.R_reads' HV4.out
            obtain ⟨ad, c, e, _, hK, hcc⟩ := Kd.C_get hC4 default (j : Int) (by omega) (by omega)
            cases e
            rw [Int.toNat_natCast] at hcc hK
            have htk := take_snoc lk default j hjl
            have hmx : lk.getD j default ∈ lk := by rw [List.getD_eq_getElem?_getD, List.getElem?_eq_getElem hjl]; exact List.getElem_mem hjl
            generalize lk.getD j default = x at hK hmx htk
            have hx0 := hcc 0 (.int .i64 x.o) (by rw [hK]; rfl)
            have hx1 := hcc 1 (.slice x.a x.s.length x.c) (by rw [hK]; rfl)
            rw [show kCq.sz = 2 from rfl, Nat.add_zero] at hx0
            rw [show kCq.sz = 2 from rfl, add_field _ _ 1 (by omega)] at hx1
            have HTK := Aside0.mk htk
            have HMX := Aside0.mk hmx
            have HGG := Aside0.mk hgg
            have HJ := Aside0.mk hlt
            have hw2 : wrap64 ((j : Int) + 1) = ((j + 1 : Nat) : Int) := by have := HT.out; have := HM7.out; unfold wrap64; omega
            clear hcc hK hC4 htk hmx hgg hj
            go_wp2
            clear hd1 hjlz hx0 hx1 hw2
            generalize hw5 : wr.alloc (.cells #[.int .i64 x.o, .slice x.a x.s.length x.c] 52) = w5
            have hb5 : Below wr.heap.size wr w5 := by rw [← hw5]; exact below_alloc (Below.refl _ _) _
            have HV5 := Aside0.mk (Kd.R_below HV4.out hb5)
            have HG5 := Aside0.mk (HG4.out.below hb5)
            have HL5 := Aside0.mk (Kd.R_below HL4.out hb5)
            have HB5 := Aside0.mk (below_step HB4.out hb5)
            have HXM := Aside0.mk (show pr x ∈ rows (S7.map pr) k by rw [← HP8.out]; exact List.mem_map_of_mem HMX.out)
            have HXL := Aside0.mk (show x.s.length ≤ 100000 by
              have h3 := ((HRI.out k).each (pr x) HXM.out).2.2
              have hq1 := HQ.out
              have hn1 := HN.out
              have hm1 := HM7.out
              have hb : (k + 1) * S7.length ≤ 15 * 320 := Nat.mul_le_mul (by omega) (by omega)
              have : x.s.length ≤ _ := h3
              omega)
            clear hw5 hb5
            go_loopg [14, 98] x.s.length (fun gg _ v98 w9 => ∃ (i : Nat) (L' : List Int), i ≤ x.s.length ∧ x.s.length - i ≤ gg ∧ v98 = .int .i64 i ∧ Aside0 (L' = bump L (x.s.take i)) ∧ Aside0 (L'.length = l0.length) ∧ Aside0 (Kd.R kCq 52 w9 w.heap.size (fun _ => True) (.slice (some ad) lk.length c8) lk) ∧ Aside0 (Good (fun k => k ≠ g) w9 lk) ∧ Aside0 (Kd.R (Kd.int .i64) 3 w9 w.heap.size (fun _ => True) (.slice (some ⟨g, 0, none⟩) l0.length l0.length) L') ∧ Aside0 (Below w.heap.size w w9))
            case atStart => exact ⟨0, L, by omega, by omega, rfl, ⟨rfl⟩, HLn, HV5, HG5, HL5, HB5⟩
            case round =>
              obtain ⟨i, L', hi, hgg, rfl, HLc', HLn', HV9, HG9, HL9, HB9⟩ := hrel
              by_cases hlt : i < x.s.length
              case neg =>
                have hie : i = x.s.length := by omega
                subst hie
                have hd1 : decide ((x.s.length : Int) < (x.s.length : Int)) = false := decide_eq_false (by omega)
                have hw2 : wrap64 ((j : Int) + 1) = ((j + 1 : Nat) : Int) := by have := HT.out; have := HM7.out; have := HJ.out; unfold wrap64; omega
                clear hi hgg hlt
                go_wp2
                go_roundg (t - (j + 1))
                case measure => have := HJ.out; have := HGG.out; omega
                case rel =>
                  have h1 := HJ.out
                  refine ⟨j + 1, L', by omega, by omega, by go_num, ⟨?_⟩, HLn', HV9, HG9, HL9, HB9⟩
                  rw [HLc'.out, List.take_length, HLc.out, ← List.map_take, ← List.map_take, HTK.out, List.map_append]
                  exact (cnt_snoc _ _ (pr x)).symm
              have hd1 : decide ((i : Int) < (x.s.length : Int)) = true := decide_eq_true (by omega)
              have hilz : (i : Int) < (x.s.length : Int) := by omega
              obtain ⟨_, hcx, hCx⟩ := Kd.R_reads' (HG9.out x HMX.out)
              obtain ⟨adx, cx, ex, _, hKx, hccx⟩ := Kd.C_get hCx 0 (i : Int) (by omega) (by omega)
              rw [Int.toNat_natCast] at hccx hKx
              have hts := take_snoc x.s 0 i hlt
              have hms : x.s.getD i 0 ∈ x.s := by rw [List.getD_eq_getElem?_getD, List.getElem?_eq_getElem hlt]; exact List.getElem_mem hlt
              have hsy := (HRI.out k).sym (pr x) HXM.out (x.s.getD i 0) hms
              generalize x.s.getD i 0 = s at hKx hts hms hsy
              obtain rfl : cx = [.int .i64 s] := hKx
              have hsc := hccx 0 _ rfl
              rw [show (Kd.int .i64).sz = 1 from rfl, Nat.mul_one, Nat.add_zero] at hsc
              have hlen' := HLn'.out
              obtain ⟨hsc2, hsf⟩ := Kd.R_cell (g := g) (cap := l0.length) 0 (show (Kd.int .i64).R 3 wr w.heap.size (fun _ => True) (.slice (some ⟨g, 0, none⟩) L'.length l0.length) L' by rw [hlen']; exact HL9.out) s hsy.1 (by rw [hlen']; exact hsy.2)
              have hrd : rdOf 0 L' s = L'.getD s.toNat 0 := rfl
              rw [hrd] at hsc2
              obtain ⟨v, hv⟩ : ∃ v, v = L'.getD s.toNat 0 := ⟨_, rfl⟩
              rw [← hv] at hsc2
              have s0 : (0 ≤ s) = True := eq_true hsy.1
              have s1 : (s < (l0.length : Int)) = True := eq_true hsy.2
              have HVv := Aside0.mk hv
              have HTS := Aside0.mk hts
              have HGG2 := Aside0.mk hgg
              have HI := Aside0.mk hlt
              have HEX := Aside0.mk ex
              have hw2 : wrap64 ((i : Int) + 1) = ((i + 1 : Nat) : Int) := by have := HXL.out; clear hsy; unfold wrap64; omega
              rw [ex]
              clear hccx hCx hcx hts hms hsy hgg hi hlen' hrd hv ex
              go_wp2
              rw [← HEX.out]
              have hput := Kd.R_put (g := g) (cap := l0.length) (show (Kd.int .i64).R 3 wr w.heap.size (fun _ => True) (.slice (some ⟨g, 0, none⟩) L'.length l0.length) L' by rw [HLn'.out]; exact HL9.out) s (wrap64 (v + 1))
              obtain ⟨hp1, hp2⟩ := hput
              rw [HLn'.out] at hp1
              have HP9 := Aside0.mk hp1
              have HV9' := Aside0.mk (Kd.R_over (v := .slice (some ⟨g, 0, none⟩) l0.length l0.length) HV9.out HL9.out (fun q hq => by
                rcases List.mem_cons.1 hq with rfl | hq
                · decide
                · cases hq) hp2)
              have HG9' := Aside0.mk (HG9.out.far (p := ⟨g, s.toNat, none⟩) (fun _ h => h) (.int .i64 (wrap64 (v + 1))))
              have HB9' := Aside0.mk (below_set (j := s.toNat) (v := .int .i64 (wrap64 (v + 1))) HB9.out (show w.heap.size ≤ g from Kd.R_base HL9.out g rfl))
              clear hp1 hp2 hw2 s0 s1 hsc hsc2 hsf hilz hd1
              go_roundg (x.s.length - (i + 1))
              case measure => have := HI.out; have := HGG2.out; omega
              case rel =>
                have h1 := HI.out
                refine ⟨i + 1, L'.set s.toNat (wrap64 (v + 1)), by omega, by omega, by go_num, ⟨?_⟩, ⟨by rw [List.length_set]; exact HLn'.out⟩, HV9', HG9', HP9, HB9'⟩
                rw [HTS.out, bump_snoc, ← HLc'.out, ← HVv.out]
        have hok : ∀ k, wr.heap.size ≤ k → k ≠ g := fun k hk => by have := HB8.out.size; have := HB7.out.size; have := HG66.out; omega
        have hsm : Small lk := fun x hx => by
          have hi := HRI.out k
          rw [← HP8.out] at hi
          obtain ⟨h1, h2, h3⟩ := hi.each (pr x) (List.mem_map_of_mem hx)
          have hq1 := HQ.out
          have hn1 := HN.out
          have hm1 := HM7.out
          have hk1 : k + 1 ≤ 15 := by omega
          have ha : ((k + 1 : Nat) : Int) * ((S7.length : Int) * 1048576) ≤ 15 * (320 * 1048576) := Int.mul_le_mul (by omega) (by omega) (by omega) (by omega)
          have hb : (k + 1) * S7.length ≤ 15 * 320 := Nat.mul_le_mul hk1 (by omega)
          exact ⟨h1, by have : x.o ≤ _ := h2; omega, by have : x.s.length ≤ _ := h3; omega⟩
        have HPRS := Aside0.mk (pairs A8 c8 lk wr (Kd.R_reads' HV8.out).2.2 (fun k => k ≠ g) hok HG8.out hsm (by have := HM7.out; omega))
        have HLK := Aside0.mk hlk2
        have HKQ := Aside0.mk hlt
        have HGG := Aside0.mk hgg
        have hw2 : wrap64 ((k : Int) + 1) = ((k + 1 : Nat) : Int) := by have := HN.out; have := HQ.out; unfold wrap64; omega
        clear hok hsm hlk hlk2 hk hgg
        have hlz : (k : Int) < wrap64 (a1 - 1) := by rw [HWQ.out]; omega
        have hd1 : decide ((k : Int) < wrap64 (a1 - 1)) = true := decide_eq_true hlz
        clear hlt
        go_wp2_with (first | (go_at_call 32; refine HPRS.out.mono ?_; rintro e w9 ⟨v9, l9, rfl, hv9, hg9, hp9, hb9⟩; obtain ⟨A9, c9, e9⟩ := Kd.R_slice hv9; subst e9; have HV9 := Aside0.mk hv9; have HG9 := Aside0.mk hg9; have HP9 := Aside0.mk hp9; have HB9 := Aside0.mk (below_step HB8.out hb9); have HB9' := Aside0.mk hb9; have HL9 := Aside0.mk (show S7.length + l9.length ≤ 100000 by have h1 := congrArg List.length hp9; rw [List.length_map, pairsL_half, List.length_map] at h1; have := HLK.out; have := HM7.out; omega); clear hv9 hg9 hp9 hb9) | (go_at_call 31; refine (merge A7 A9 c7 c9 S7 l9 _ (Kd.C_below HC7.out HB9.out) (Kd.R_reads' HV9.out).2.2 HL7.out (Kd.R_reads' HV9.out).2.1 (by have := HM7.out; omega) HL9.out).mono ?_; rintro e w10 ⟨v10, rfl, hv10, hb10⟩; have HV10 := Aside0.mk hv10; have HB10 := Aside0.mk hb10; clear hv10 hb10))
        go_roundg (q - (k + 1))
        case measure => have := HKQ.out; have := HGG.out; omega
        case rel =>
          have h1 := HKQ.out
          refine ⟨k + 1, _, srt ltQ (S7 ++ l9), by omega, by omega, by go_num, rfl, ⟨?_⟩, ⟨Kd.R_lower HV10.out (Nat.le_trans (below_size HBW.out) HB9.out.size)⟩, ⟨?_⟩, ⟨below_step HB9.out HB10.out⟩⟩
          · rw [srt_map ltQ pr ltP (fun _ _ => rfl), List.map_append, HP9.out, HP8.out]
            rfl
          · exact (((HG7.out.below HB9.out).append HG9.out).below HB10.out).perm (srt_perm _ _)
    obtain ⟨n, hn⟩ : ∃ n, n = l0.getD k 0 := ⟨_, rfl⟩
    obtain ⟨ad, c, e, _, hK, hcc⟩ := Kd.C_get HR.out 0 (k : Int) (by omega) (by omega)
    cases e
    rw [Int.toNat_natCast, ← hn] at hK
    obtain rfl : c = [.int .i64 n] := hK
    have hcell0 := hcc 0 _ rfl
    rw [Int.toNat_natCast, show (Kd.int .i64).sz = 1 from rfl, Nat.mul_one, Nat.add_zero] at hcell0
    have hcell : wr.cell? (ad.add k) = some (.int .i64 n) := (HB.out.cell (World.block_lt_of_cell? w _ hcell0)).trans hcell0
    have hd1 : decide ((k : Int) < (l0.length : Int)) = true := decide_eq_true (by omega)
    have HK := Aside0.mk hlt
    have HGG := Aside0.mk hgg
    have HLK := Aside0.mk hlk
    have HNn := Aside0.mk hn
    clear hcell0 hcc hk hgg hlk hn
    by_cases hb1 : n < 0
    · have db1 : decide (n < 0) = true := decide_eq_true hb1
      clear hb1
      have HB1 := Aside0.mk (show n < 0 ∨ n > 1048576 from .inl (of_decide_eq_true db1))
      go_wp2
      go_ret2
      have hbad := sgl_bad HS.out HNn.out HB1.out HK.out
      have hh := HH.out
      rw [hbad] at hh
      simp only [Option.some.injEq, Prod.mk.injEq] at hh
      obtain ⟨rfl, rfl⟩ := hh
      exact ⟨_, rfl, Kd.R_nil _ _ _ _ _, HB.out⟩
    have db1 : decide (n < 0) = false := decide_eq_false hb1
    by_cases hb2 : n > 1048576
    · have db2 : decide (n > 1048576) = true := decide_eq_true hb2
      have HB1 := Aside0.mk (show n < 0 ∨ n > 1048576 from .inr hb2)
      clear hb1 hb2
      go_wp2
      go_ret2
      have hbad := sgl_bad HS.out HNn.out HB1.out HK.out
      have hh := HH.out
      rw [hbad] at hh
      simp only [Option.some.injEq, Prod.mk.injEq] at hh
      obtain ⟨rfl, rfl⟩ := hh
      exact ⟨_, rfl, Kd.R_nil _ _ _ _ _, HB.out⟩
    have db2 : decide (n > 1048576) = false := decide_eq_false hb2
    have HNs := Aside0.mk (And.intro hb1 hb2)
    clear hb1 hb2
    by_cases hb3 : n > 0
    · have db3 : decide (n > 0) = true := decide_eq_true hb3
      have HB3 := Aside0.mk hb3
      clear hb3
      have hw2 : wrap64 ((k : Int) + 1) = ((k + 1 : Nat) : Int) := by have := HN.out; unfold wrap64; omega
      go_wp2_with (first | ((with_reducible refine gate_builtin (b := .append) (xs := #[.tmp 41, .tmp 46]) rfl ?_); at_builtin; refine Kd.R_append kCq (w0 := w) w.heap.size rfl (.tmp 41) (.tmp 46) 50 52 (.agg #[.int .i64 0, .slice none 0 0]) 32 rfl Try.underlying50 inf52 rfl (by decide) (by omega) u6 l (⟨n, [(k : Int)], some ⟨wr.heap.size, 0, none⟩, 1⟩ : Cq) [.int .i64 n, .slice (some ⟨wr.heap.size, 0, none⟩) 1 1] (fun _ => True) (fun _ => False) rfl (by first | rfl | (show (Value.slice (some ⟨wr.heap.size + 1, 0, none⟩) 1 1 : Value) = _; simp)) ?aP (fun _ hk => hk.elim) (fun _ _ => trivial) (Kd.R_alloc HV.out _) (below_alloc HB.out _) (below_size (below_alloc HB.out _)) ?aL ?_; (case aP => exact rfl); (case aL => have := HLK.out; have := HN.out; have := HK.out; omega); intro v5 w5 ho hb hg hat; have HV5 := Aside0.mk ho; have HB5 := Aside0.mk hb; have HG5 := Aside0.mk (show Good (fun _ => True) w5 (l ++ [(⟨n, [(k : Int)], some ⟨wr.heap.size, 0, none⟩, 1⟩ : Cq)]) from Good.snoc (x := ⟨n, [(k : Int)], some ⟨wr.heap.size, 0, none⟩, 1⟩) (HG.out.below (below_alloc (Below.refl _ _) _)) (one_row wr (k : Int) 0 (Nat.zero_le _)) (Kd.R_alloc HV.out _) hg); clear ho hb hg hat))
      go_roundg (l0.length - (k + 1))
      case measure => have := HK.out; have := HGG.out; omega
      case rel =>
        have h1 := HK.out
        have h2 := HLK.out
        have h3 := HN.out
        refine ⟨k + 1, _, l ++ [(⟨n, [(k : Int)], some ⟨wr.heap.size, 0, none⟩, 1⟩ : Cq)], by omega, by omega, by go_num, rfl, by simp; omega, ⟨?_⟩, HV5, HG5, HB5⟩
        rw [sgl_more HS.out HNn.out (by have := HNs.out.1; omega) (by have := HNs.out.2; omega), if_pos (by have := HB3.out; omega), List.map_append]
        rfl
    have db3 : decide (n > 0) = false := decide_eq_false hb3
    have HB3 := Aside0.mk hb3
    clear hb3
    have hw2 : wrap64 ((k : Int) + 1) = ((k + 1 : Nat) : Int) := by have := HN.out; unfold wrap64; omega
    go_wp2
    go_roundg (l0.length - (k + 1))
    case measure => have := HK.out; have := HGG.out; omega
    case rel =>
      have h1 := HK.out
      have h2 := HLK.out
      have h3 := HN.out
      refine ⟨k + 1, _, l, by omega, by omega, by go_num, rfl, by omega, ⟨?_⟩, HV, HG, HB⟩
      rw [sgl_more HS.out HNn.out (by have := HNs.out.1; omega) (by have := HNs.out.2; omega), if_neg (by have := HB3.out; omega)]
end Go.Proofs.Ytachnclfgjdglaa.Coin
