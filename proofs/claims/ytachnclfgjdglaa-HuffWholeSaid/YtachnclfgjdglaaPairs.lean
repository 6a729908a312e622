/- Two rows of coins as one that rises, and coins two by two. The conditions (not too many, small numbers) stand in each theorem. -/
import Derived.Test.YtachnclfgjdglaaConcat
import Derived.BigRegion
namespace Go.Proofs.Ytachnclfgjdglaa.Coin
open Go.RowKit Go.Sort Go.Proofs.YtachnclfgjdglaaW.PrintWords Go.Proofs.YtachnclfgjdglaaW.PrintLast Go.Proofs.YtachnclfgjdglaaW.PrintMore Go.Proofs.YtachnclfgjdglaaSrt
set_option linter.unusedVariables false
set_option linter.unusedSimpArgs false

/-- two rows as the row of both -/
theorem two_rows {α : Type} (d : Kd α) (e t : Nat) (w : World) {A B : Option Addr} {ca cb : Nat} {la lb : List α} (hA : d.C w A la.length la) (hB : d.C w B lb.length lb) (ha : la.length ≤ ca) (hb : lb.length ≤ cb) :
    Kd.C (Kd.slice e d) (w.alloc (.cells #[.slice A la.length ca, .slice B lb.length cb] t)) (some ⟨w.heap.size, 0, none⟩) [la, lb].length [la, lb] := by
  refine ⟨rfl, by show (2 : Nat) ≤ _; decide, fun _ => ⟨_, rfl, fun j p hj => ?_⟩⟩
  have hn := heap_alloc_new w (.cells #[.slice A la.length ca, .slice B lb.length cb] t)
  match j, hj with
  | 0, hj =>
    obtain rfl : la = p := Option.some.inj hj
    refine ⟨[.slice A la.length ca], rfl, ⟨A, ca, rfl, ha, Kd.C_alloc hA _⟩, fun i u hu => ?_⟩
    match i, hu with
    | 0, hu =>
      obtain rfl : Value.slice A la.length ca = u := Option.some.inj hu
      rw [add_plain]
      exact blk_cell hn 0
  | 1, hj =>
    obtain rfl : lb = p := Option.some.inj hj
    refine ⟨[.slice B lb.length cb], rfl, ⟨B, cb, rfl, hb, Kd.C_alloc hB _⟩, fun i u hu => ?_⟩
    match i, hu with
    | 0, hu =>
      obtain rfl : Value.slice B lb.length cb = u := Option.some.inj hu
      rw [add_plain]
      exact blk_cell hn 1
set_option maxHeartbeats 8000000 in
set_option maxRecDepth 100000 in
theorem merge (A B : Option Addr) (ca cb : Nat) (la lb : List Cq) (w : World) (hA : Kd.C kCq w A la.length la) (hB : Kd.C kCq w B lb.length lb) (hca : la.length ≤ ca) (hcb : lb.length ≤ cb) (h0 : 0 < la.length) (h20 : la.length + lb.length ≤ 100000) :
    Calls Try.prog 31 #[.slice A la.length ca, .slice B lb.length cb] w fun e w' => ∃ v, e = .returned v ∧ Kd.R kCq 52 w' w.heap.size (fun _ => True) v (srt ltQ (la ++ lb)) ∧ Below w.heap.size w w' := by
  have hcon := concatQ (some ⟨w.heap.size, 0, none⟩) 2 [la, lb] (w.alloc (.cells #[.slice A la.length ca, .slice B lb.length cb] 50)) (two_rows kCq 52 50 w hA hB hca hcb) (by show (2 : Nat) ≤ _; decide) (by simp [tot]; omega)
  rw [show [la, lb].flatten = la ++ lb by simp, show [la, lb].length = 2 from rfl] at hcon
  have HCON := Aside0.mk hcon
  have hl : (la ++ lb).length ≤ 1000000 := by rw [List.length_append]; omega
  have hl0 : 0 < (la ++ lb).length := by rw [List.length_append]; omega
  generalize la ++ lb = l at HCON hl hl0 ⊢
  have HL := Aside0.mk hl
  have HL0 := Aside0.mk hl0
  clear hcon hA hB hca hcb h0 h20 hl hl0
  generalize la.length = na at HCON ⊢
  generalize lb.length = nb at HCON ⊢
  go_enter Try.func31, Try.ntmps31
  go_wp2_with (first | (go_at_call 38; refine HCON.out.mono ?_; rintro e w1 ⟨v, rfl, hv, hb⟩; have HV := Aside0.mk (Kd.R_lower hv (by simp : w.heap.size ≤ _)); have HB := Aside0.mk (below_step (below_alloc (Below.refl _ _) _) hb); clear hv hb; obtain ⟨A1, c1, e1⟩ := Kd.R_slice HV.out; subst e1) | (go_at_call 39; refine (sortStable HV.out HL.out HL0.out).mono ?_; rintro e w2 ⟨rfl, hv, hb⟩; have HV2 := Aside0.mk hv; have HB2 := Aside0.mk (HB.out.trans hb); clear hv hb))
  go_ret
  exact ⟨_, rfl, HV2.out, HB2.out⟩
/-- coins two by two -/
def pairsL : List (Int × List Int) → List (Int × List Int)
  | x :: y :: t => (x.1 + y.1, x.2 ++ y.2) :: pairsL t
  | _ => []
def pr (x : Cq) : Int × List Int := (x.o, x.s)
theorem pairsL_snoc : ∀ (n : Nat) (l : List (Int × List Int)) (x y : Int × List Int), l.length = 2 * n → pairsL (l ++ [x, y]) = pairsL l ++ [(x.1 + y.1, x.2 ++ y.2)]
  | 0, [], x, y, _ => rfl
  | n + 1, a :: b :: l, x, y, h => by
    rw [List.cons_append, List.cons_append, pairsL, pairsL, pairsL_snoc n l x y (by simp at h; omega)]
    rfl
theorem pairsL_odd : ∀ (n : Nat) (l : List (Int × List Int)) (x : Int × List Int), l.length = 2 * n → pairsL (l ++ [x]) = pairsL l
  | 0, [], x, _ => rfl
  | n + 1, a :: b :: l, x, h => by
    rw [List.cons_append, List.cons_append, pairsL, pairsL, pairsL_odd n l x (by simp at h; omega)]
theorem pairsL_len : ∀ l : List (Int × List Int), (pairsL l).length ≤ l.length
  | [] => Nat.le_refl _
  | [x] => Nat.zero_le _
  | x :: y :: t => by
    have := pairsL_len t
    rw [pairsL, List.length_cons, List.length_cons, List.length_cons]
    omega
/-- the sums stay small -/
def Small (l : List Cq) : Prop := ∀ x ∈ l, 0 ≤ x.o ∧ x.o ≤ 1000000000000000 ∧ x.s.length ≤ 100000
set_option maxHeartbeats 8000000 in
set_option maxRecDepth 100000 in
theorem pairs (A : Option Addr) (c0 : Nat) (l : List Cq) (w : World) (hC : Kd.C kCq w A l.length l) (ok0 : Nat → Prop) (hok0 : ∀ k, w.heap.size ≤ k → ok0 k) (hG : Good ok0 w l) (hS : Small l) (hn : l.length ≤ 100000) :
    Calls Try.prog 32 #[.slice A l.length c0] w fun e w' => ∃ (v : Value) (l' : List Cq), e = .returned v ∧ Kd.R kCq 52 w' w.heap.size (fun _ => True) v l' ∧ Good ok0 w' l' ∧ l'.map pr = pairsL (l.map pr) ∧ Below w.heap.size w w' := by
  have HC := Aside0.mk hC
  have HG := Aside0.mk hG
  have HS := Aside0.mk hS
  clear hC hG hS
  go_enter Try.func32, Try.ntmps32
  go_wp2
  go_loopg [3, 4] l.length (fun gg v3 v4 wr => ∃ (k : Nat) (v : Value) (l' : List Cq), 2 * k ≤ l.length ∧ l.length - 2 * k ≤ gg ∧ v4 = .int .i64 (2 * k : Nat) ∧ v3 = v ∧ Aside0 (Kd.R kCq 52 wr w.heap.size (fun _ => True) v l') ∧ Aside0 (Good ok0 wr l') ∧ Aside0 (l'.map pr = pairsL ((l.take (2 * k)).map pr)) ∧ Aside0 (Below w.heap.size w wr))
  case atStart => exact ⟨0, _, [], by omega, by omega, rfl, rfl, ⟨Kd.R_nil _ _ _ _ _⟩, ⟨fun x hx => by cases hx⟩, ⟨rfl⟩, ⟨Below.refl _ _⟩⟩
  case round =>
    obtain ⟨k, v, l', hk, hgg, rfl, rfl, HV, HG1, HP, HB⟩ := hrel
    obtain ⟨i, hi⟩ : ∃ i, i = 2 * k := ⟨_, rfl⟩
    rw [← hi] at hk hgg HP ⊢
    have HW1 : Aside0 (wrap64 ((i : Int) + 1) = ((i + 1 : Nat) : Int)) := ⟨by unfold wrap64; omega⟩
    by_cases hlt : i + 1 < l.length
    case neg =>
      have hltz : ¬ ((i + 1 : Nat) : Int) < (l.length : Int) := by omega
      have hd1 : decide (((i + 1 : Nat) : Int) < (l.length : Int)) = false := decide_eq_false hltz
      have HK := Aside0.mk hk
      have HI := Aside0.mk hi
      have HLT := Aside0.mk hlt
      have hw1 := HW1.out
      clear hk hgg hi hlt
      go_wp2
      go_ret
      refine ⟨_, rfl, l', HV.out, HG1.out, ?_, HB.out⟩
      rw [HP.out]
      have hk := HK.out
      have hi := HI.out
      have hlt := HLT.out
      by_cases he : i = l.length
      · rw [he, List.take_length]
      · have e1 : l = l.take i ++ [l.getD i default] := by
          have hil : i < l.length := by omega
          rw [List.getD_eq_getElem?_getD, List.getElem?_eq_getElem hil]
          have h2 := List.take_append_getElem hil
          rw [show i + 1 = l.length by omega, List.take_length] at h2
          exact h2.symm
        have e2 := pairsL_odd k ((l.take i).map pr) (pr (l.getD i default)) (by rw [List.length_map, List.length_take]; omega)
        rw [← e2]
        conv => rhs; rw [e1, List.map_append]
        rfl
    have hltz : ((i + 1 : Nat) : Int) < (l.length : Int) := by omega
    have hlt0 : i < l.length := by omega
    have hmx : l.getD i default ∈ l := by rw [List.getD_eq_getElem?_getD, List.getElem?_eq_getElem hlt0]; exact List.getElem_mem hlt0
    have hmy : l.getD (i + 1) default ∈ l := by rw [List.getD_eq_getElem?_getD, List.getElem?_eq_getElem hlt]; exact List.getElem_mem hlt
    have htk : l.take (i + 2) = l.take i ++ [l.getD i default, l.getD (i + 1) default] := by
      rw [show i + 2 = (i + 1) + 1 from rfl, List.take_succ_eq_append_getElem hlt, List.take_succ_eq_append_getElem hlt0, List.getD_eq_getElem?_getD, List.getElem?_eq_getElem hlt0, List.getD_eq_getElem?_getD, List.getElem?_eq_getElem hlt]
      simp only [Option.getD_some, List.append_assoc, List.singleton_append]
    have hll : l'.length ≤ l.length := by
      have h1 := congrArg List.length HP.out
      rw [List.length_map] at h1
      rw [h1]
      refine Nat.le_trans (pairsL_len _) ?_
      rw [List.length_map, List.length_take]
      omega
    obtain ⟨ad, c, e, _, hK, hcc⟩ := Kd.C_get HC.out default (i : Int) (by omega) (by omega)
    obtain ⟨ad', c', e', _, hK', hcc'⟩ := Kd.C_get HC.out default ((i + 1 : Nat) : Int) (by omega) (by omega)
    cases e
    cases e'
    rw [Int.toNat_natCast] at hcc hK hcc' hK'
    generalize l.getD i default = x at hK hmx htk
    generalize l.getD (i + 1) default = y at hK' hmy htk
    have hx0 := hcc 0 (.int .i64 x.o) (by rw [hK]; rfl)
    have hx1 := hcc 1 (.slice x.a x.s.length x.c) (by rw [hK]; rfl)
    have hy0 := hcc' 0 (.int .i64 y.o) (by rw [hK']; rfl)
    have hy1 := hcc' 1 (.slice y.a y.s.length y.c) (by rw [hK']; rfl)
    rw [show kCq.sz = 2 from rfl, Nat.add_zero] at hx0 hy0
    rw [show kCq.sz = 2 from rfl, add_field _ _ 1 (by omega)] at hx1 hy1
    have hbx := World.block_lt_of_cell? w _ hx0
    have up : ∀ {W : World} {p : Addr} {u : Value}, Below w.heap.size w W → w.cell? p = some u → W.cell? p = some u := fun hb h => (hb.cell (World.block_lt_of_cell? w _ h)).trans h
    have X0 := up HB.out hx0
    have X1 := up HB.out hx1
    have Y0 := up HB.out hy0
    have Y1 := up HB.out hy1
    obtain ⟨_, hcx, hgx⟩ := Kd.R_reads' (HG.out x hmx)
    obtain ⟨_, hcy, hgy⟩ := Kd.R_reads' (HG.out y hmy)
    obtain ⟨hsx1, hsx2, hsx3⟩ := HS.out x hmx
    obtain ⟨hsy1, hsy2, hsy3⟩ := HS.out y hmy
    obtain ⟨s2, hs2⟩ : ∃ s2, s2 = x.s ++ y.s := ⟨_, rfl⟩
    have hsum : tot [x.s, y.s] ≤ 1000000 := by simp [tot]; omega
    have CON : ∀ W, Below w.heap.size w W → Calls Try.prog 42 #[.slice (some ⟨W.heap.size, 0, none⟩) 2 2] (W.alloc (.cells #[.slice x.a x.s.length x.c, .slice y.a y.s.length y.c] 22)) fun e w' => ∃ v, e = .returned v ∧ Kd.R (Kd.int .i64) 3 w' 0 ok0 v s2 ∧ Below W.heap.size W w' := by
      intro W hW
      rw [hs2]
      have hcon := concatI (some ⟨W.heap.size, 0, none⟩) 2 [x.s, y.s] (W.alloc (.cells #[.slice x.a x.s.length x.c, .slice y.a y.s.length y.c] 22)) (two_rows (Kd.int .i64) 3 22 W (Kd.C_below hgx hW) (Kd.C_below hgy hW) hcx hcy) (by show (2 : Nat) ≤ _; decide) hsum
      rw [show [x.s, y.s].flatten = x.s ++ y.s by simp, show [x.s, y.s].length = 2 from rfl] at hcon
      refine hcon.mono ?_
      rintro e w' ⟨v, rfl, hv, hb⟩
      exact ⟨v, rfl, Kd.R_lower (Kd.R_mono (Kd.R_bound hv) (fun k hk => hok0 k (by have h1 := hk.2.1; have h2 := hW.size; simp at h1; omega))) (Nat.zero_le _), below_step (below_alloc (Below.refl _ _) _) hb⟩
    have HCON := Aside0.mk CON
    have HS2 := Aside0.mk hs2
    have hp1 : (0 : Int) ≤ (i : Int) + 1 := by omega
    have hlz2 : (i : Int) + 1 < (l.length : Int) := by omega
    have hd1 : decide ((i : Int) + 1 < (l.length : Int)) = true := decide_eq_true hlz2
    have hw2 : wrap64 (x.o + y.o) = x.o + y.o := by unfold wrap64; omega
    have hw3 : wrap64 ((i : Int) + 2) = ((i + 2 : Nat) : Int) := by clear hw2; unfold wrap64; omega
    have HTK := Aside0.mk htk
    have HKK := Aside0.mk hi
    have HGG := Aside0.mk hgg
    have HLT := Aside0.mk hlt
    have HLen := Aside0.mk hll
    have HW3 := Aside0.mk hw3
    have hw1 := HW1.out
    have HX0 := Aside0.mk hx0
    have HX1 := Aside0.mk hx1
    have HY0 := Aside0.mk hy0
    have HY1 := Aside0.mk hy1
    clear CON hs2 hsum hcc hcc' hgx hcx hgy hcy hsx1 hsx2 hsx3 hsy1 hsy2 hsy3 htk hgg hmx hmy hx0 hx1 hy0 hy1 hbx hk hi hll
    have HW2 := Aside0.mk hw2
    clear hw1 hw2 hw3
    go_wp2
    have hw1 := HW1.out
    have hw2 := HW2.out
    refine start_ (n := 30) (S := fun w' => w'.cell? (ad.add (i * 2)) = some (.int .i64 x.o) ∧ w'.cell? ⟨(ad.add (i * 2)).block, (ad.add (i * 2)).off + 1, none⟩ = some (.slice x.a x.s.length x.c) ∧ w'.cell? (ad.add ((i + 1) * 2)) = some (.int .i64 y.o) ∧ w'.cell? ⟨(ad.add ((i + 1) * 2)).block, (ad.add ((i + 1) * 2)).off + 1, none⟩ = some (.slice y.a y.s.length y.c)) (ds := [27, 28]) #[false, false, false, false, false, false, false, false, false, false, false, false, false, false, false, false, false, false, false, false, false, false, false, false, false, false, false, false, false, false] (by kernel_rfl) rfl rfl ⟨X0, X1, Y0, Y1⟩ (fun hHeld => ?_)
    generalize hwd : wr.drew = wd at hHeld ⊢
    have HBd := Aside0.mk (show Below w.heap.size w wd from hwd ▸ below_drew HB.out)
    have HVd := Aside0.mk (show Kd.R kCq 52 wd w.heap.size (fun _ => True) u3 l' from hwd ▸ Kd.R_drew HV.out)
    have HGd := Aside0.mk (show Good ok0 wd l' from hwd ▸ (fun z hz => Kd.R_drew (HG1.out z hz)))
    clear hwd
    refine pure_ (i := 0) (N := some 12) (v := ?_) (a' := ?_) #[true, false, false, false, false, false, false, false, false, false, false, false, false, false, false, false, false, false, false, false, false, false, false, false, false, false, false, false, false, false] rfl rfl (by kernel_rfl) (fun _ _ _ h => h) (Or.inl ⟨by rfl, ?_⟩) ?_ ?_
    rotate_left
    · intro w'
      go_simp
      with_reducible rfl
    rotate_left
    · simp only [Act.put, List.setIfInBounds_toArray, List.set_cons_zero, List.set_cons_succ, i64_w, i32_w]
      rfl
    refine pure_ (i := 1) (N := some 13) (v := ?_) (a' := ?_) #[true, true, false, false, false, false, false, false, false, false, false, false, false, false, false, false, false, false, false, false, false, false, false, false, false, false, false, false, false, false] rfl rfl (by kernel_rfl) (fun _ _ _ h => h) (Or.inl ⟨by rfl, ?_⟩) ?_ ?_
    rotate_left
    · intro w'
      go_simp
      with_reducible rfl
    rotate_left
    · simp only [Act.put, List.setIfInBounds_toArray, List.set_cons_zero, List.set_cons_succ, i64_w, i32_w]
      rfl
    refine pure_ (i := 2) (N := some 14) (v := ?_) (a' := ?_) #[true, true, true, false, false, false, false, false, false, false, false, false, false, false, false, false, false, false, false, false, false, false, false, false, false, false, false, false, false, false] rfl rfl (by kernel_rfl) (fun _ _ _ h => h) (Or.inl ⟨by rfl, ?_⟩) ?_ ?_
    rotate_left
    · intro w'
      go_simp
      with_reducible rfl
    rotate_left
    · simp only [Act.put, List.setIfInBounds_toArray, List.set_cons_zero, List.set_cons_succ, i64_w, i32_w]
      rfl
    refine pure_ (i := 3) (N := some 15) (v := ?_) (a' := ?_) #[true, true, true, true, false, false, false, false, false, false, false, false, false, false, false, false, false, false, false, false, false, false, false, false, false, false, false, false, false, false] rfl rfl (by kernel_rfl) (fun _ _ _ h => h) (Or.inl ⟨by rfl, ?_⟩) ?_ ?_
    rotate_left
    · intro w'
      go_simp
      with_reducible rfl
    rotate_left
    · simp only [Act.put, List.setIfInBounds_toArray, List.set_cons_zero, List.set_cons_succ, i64_w, i32_w]
      rfl
    refine pure_ (i := 4) (N := some 16) (v := ?_) (a' := ?_) #[true, true, true, true, true, false, false, false, false, false, false, false, false, false, false, false, false, false, false, false, false, false, false, false, false, false, false, false, false, false] rfl rfl (by kernel_rfl) (fun _ _ _ h => h) (Or.inl ⟨by rfl, ?_⟩) ?_ ?_
    rotate_left
    · intro w'
      go_simp
      with_reducible rfl
    rotate_left
    · simp only [Act.put, List.setIfInBounds_toArray, List.set_cons_zero, List.set_cons_succ, i64_w, i32_w]
      rfl
    refine pure_ (i := 6) (N := some 18) (v := ?_) (a' := ?_) #[true, true, true, true, true, false, true, false, false, false, false, false, false, false, false, false, false, false, false, false, false, false, false, false, false, false, false, false, false, false] rfl rfl (by kernel_rfl) (fun _ _ _ h => h) (Or.inl ⟨by rfl, ?_⟩) ?_ ?_
    rotate_left
    · intro w'
      go_simp
      with_reducible rfl
    rotate_left
    · simp only [Act.put, List.setIfInBounds_toArray, List.set_cons_zero, List.set_cons_succ, i64_w, i32_w]
      rfl
    refine pure_ (i := 7) (N := some 19) (v := ?_) (a' := ?_) #[true, true, true, true, true, false, true, true, false, false, false, false, false, false, false, false, false, false, false, false, false, false, false, false, false, false, false, false, false, false] rfl rfl (by kernel_rfl) (fun _ _ _ h => h) (Or.inl ⟨by rfl, ?_⟩) ?_ ?_
    rotate_left
    · intro w'
      go_simp
      with_reducible rfl
    rotate_left
    · simp only [Act.put, List.setIfInBounds_toArray, List.set_cons_zero, List.set_cons_succ, i64_w, i32_w]
      rfl
    refine pure_ (i := 8) (N := some 20) (v := ?_) (a' := ?_) #[true, true, true, true, true, false, true, true, true, false, false, false, false, false, false, false, false, false, false, false, false, false, false, false, false, false, false, false, false, false] rfl rfl (by kernel_rfl) (fun _ _ _ h => h) (Or.inl ⟨by rfl, ?_⟩) ?_ ?_
    rotate_left
    · intro w'
      go_simp
      with_reducible rfl
    rotate_left
    · simp only [Act.put, List.setIfInBounds_toArray, List.set_cons_zero, List.set_cons_succ, i64_w, i32_w]
      rfl
    refine pure_ (i := 9) (N := some 21) (v := ?_) (a' := ?_) #[true, true, true, true, true, false, true, true, true, true, false, false, false, false, false, false, false, false, false, false, false, false, false, false, false, false, false, false, false, false] rfl rfl (by kernel_rfl) (fun _ _ _ h => h) (Or.inl ⟨by rfl, ?_⟩) ?_ ?_
    rotate_left
    · intro w'
      go_simp
      with_reducible rfl
    rotate_left
    · simp only [Act.put, List.setIfInBounds_toArray, List.set_cons_zero, List.set_cons_succ, i64_w, i32_w]
      rfl
    refine pure_ (i := 10) (N := some 22) (v := ?_) (a' := ?_) #[true, true, true, true, true, false, true, true, true, true, true, false, false, false, false, false, false, false, false, false, false, false, false, false, false, false, false, false, false, false] rfl rfl (by kernel_rfl) (fun _ _ _ h => h) (Or.inl ⟨by rfl, ?_⟩) ?_ ?_
    rotate_left
    · intro w'
      go_simp
      with_reducible rfl
    rotate_left
    · simp only [Act.put, List.setIfInBounds_toArray, List.set_cons_zero, List.set_cons_succ, i64_w, i32_w]
      rfl
    refine pure_ (i := 13) (N := some 25) (v := ?_) (a' := ?_) #[true, true, true, true, true, false, true, true, true, true, true, false, false, true, false, false, false, false, false, false, false, false, false, false, false, false, false, false, false, false] rfl rfl (by kernel_rfl) (fun _ _ _ h => h) (Or.inl ⟨by rfl, ?_⟩) ?_ ?_
    rotate_left
    · intro w'
      go_simp
      with_reducible rfl
    rotate_left
    · simp only [Act.put, List.setIfInBounds_toArray, List.set_cons_zero, List.set_cons_succ, i64_w, i32_w]
      rfl
    refine pure_ (i := 14) (N := some 26) (v := ?_) (a' := ?_) #[true, true, true, true, true, false, true, true, true, true, true, false, false, true, true, false, false, false, false, false, false, false, false, false, false, false, false, false, false, false] rfl rfl (by kernel_rfl) (fun _ _ _ h => h) (Or.inl ⟨by rfl, ?_⟩) ?_ ?_
    rotate_left
    · intro w'
      go_simp
      with_reducible rfl
    rotate_left
    · simp only [Act.put, List.setIfInBounds_toArray, List.set_cons_zero, List.set_cons_succ, i64_w, i32_w]
      rfl
    refine pure_ (i := 15) (N := some 27) (v := ?_) (a' := ?_) #[true, true, true, true, true, false, true, true, true, true, true, false, false, true, true, true, false, false, false, false, false, false, false, false, false, false, false, false, false, false] rfl rfl (by kernel_rfl) (fun _ _ _ h => h) (Or.inl ⟨by rfl, ?_⟩) ?_ ?_
    rotate_left
    · intro w'
      go_simp
      with_reducible rfl
    rotate_left
    · simp only [Act.put, List.setIfInBounds_toArray, List.set_cons_zero, List.set_cons_succ, i64_w, i32_w]
      rfl
    refine pure_ (i := 16) (N := some 28) (v := ?_) (a' := ?_) #[true, true, true, true, true, false, true, true, true, true, true, false, false, true, true, true, true, false, false, false, false, false, false, false, false, false, false, false, false, false] rfl rfl (by kernel_rfl) (fun _ _ _ h => h) (Or.inl ⟨by rfl, ?_⟩) ?_ ?_
    rotate_left
    · intro w'
      go_simp
      with_reducible rfl
    rotate_left
    · simp only [Act.put, List.setIfInBounds_toArray, List.set_cons_zero, List.set_cons_succ, i64_w, i32_w]
      rfl
    refine pure_ (i := 18) (N := some 30) (v := ?_) (a' := ?_) #[true, true, true, true, true, false, true, true, true, true, true, false, false, true, true, true, true, false, true, false, false, false, false, false, false, false, false, false, false, false] rfl rfl (by kernel_rfl) (fun _ _ _ h => h) (Or.inl ⟨by rfl, ?_⟩) ?_ ?_
    rotate_left
    · intro w'
      go_simp
      with_reducible rfl
    rotate_left
    · simp only [Act.put, List.setIfInBounds_toArray, List.set_cons_zero, List.set_cons_succ, i64_w, i32_w]
      rfl
    refine pure_ (i := 19) (N := some 31) (v := ?_) (a' := ?_) #[true, true, true, true, true, false, true, true, true, true, true, false, false, true, true, true, true, false, true, true, false, false, false, false, false, false, false, false, false, false] rfl rfl (by kernel_rfl) (fun _ _ _ h => h) (Or.inl ⟨by rfl, ?_⟩) ?_ ?_
    rotate_left
    · intro w'
      go_simp
      with_reducible rfl
    rotate_left
    · simp only [Act.put, List.setIfInBounds_toArray, List.set_cons_zero, List.set_cons_succ, i64_w, i32_w]
      rfl
    refine pure_ (i := 20) (N := some 32) (v := ?_) (a' := ?_) #[true, true, true, true, true, false, true, true, true, true, true, false, false, true, true, true, true, false, true, true, true, false, false, false, false, false, false, false, false, false] rfl rfl (by kernel_rfl) (fun _ _ _ h => h) (Or.inl ⟨by rfl, ?_⟩) ?_ ?_
    rotate_left
    · intro w'
      go_simp
      with_reducible rfl
    rotate_left
    · simp only [Act.put, List.setIfInBounds_toArray, List.set_cons_zero, List.set_cons_succ, i64_w, i32_w]
      rfl
    refine pure_ (i := 21) (N := some 33) (v := ?_) (a' := ?_) #[true, true, true, true, true, false, true, true, true, true, true, false, false, true, true, true, true, false, true, true, true, true, false, false, false, false, false, false, false, false] rfl rfl (by kernel_rfl) (fun _ _ _ h => h) (Or.inl ⟨by rfl, ?_⟩) ?_ ?_
    rotate_left
    · intro w'
      go_simp
      with_reducible rfl
    rotate_left
    · simp only [Act.put, List.setIfInBounds_toArray, List.set_cons_zero, List.set_cons_succ, i64_w, i32_w]
      rfl
    refine pure_ (i := 22) (N := some 34) (v := ?_) (a' := ?_) #[true, true, true, true, true, false, true, true, true, true, true, false, false, true, true, true, true, false, true, true, true, true, true, false, false, false, false, false, false, false] rfl rfl (by kernel_rfl) (fun _ _ _ h => h) (Or.inl ⟨by rfl, ?_⟩) ?_ ?_
    rotate_left
    · intro w'
      go_simp
      with_reducible rfl
    rotate_left
    · simp only [Act.put, List.setIfInBounds_toArray, List.set_cons_zero, List.set_cons_succ, i64_w, i32_w]
      rfl
    refine take_ (i := 5) (N := some 17) (v := ?_) (a' := ?_) #[true, true, true, true, true, true, true, true, true, true, true, false, false, true, true, true, true, false, true, true, true, true, true, false, false, false, false, false, false, false] rfl rfl (by kernel_rfl) (fun _ _ _ h => h) (Or.inl ⟨by rfl, ?_⟩) hHeld ?_ ?_
    rotate_left
    · rintro w' ⟨s0, s1, s2, s3⟩
      go_simp
      with_reducible rfl
    rotate_left
    · simp only [Act.put, List.setIfInBounds_toArray, List.set_cons_zero, List.set_cons_succ, i64_w, i32_w]
      rfl
    refine take_ (i := 11) (N := some 23) (v := ?_) (a' := ?_) #[true, true, true, true, true, true, true, true, true, true, true, true, false, true, true, true, true, false, true, true, true, true, true, false, false, false, false, false, false, false] rfl rfl (by kernel_rfl) (fun _ _ _ h => h) (Or.inl ⟨by rfl, ?_⟩) hHeld ?_ ?_
    rotate_left
    · rintro w' ⟨s0, s1, s2, s3⟩
      go_simp
      with_reducible rfl
    rotate_left
    · simp only [Act.put, List.setIfInBounds_toArray, List.set_cons_zero, List.set_cons_succ, i64_w, i32_w]
      rfl
    refine take_ (i := 17) (N := some 29) (v := ?_) (a' := ?_) #[true, true, true, true, true, true, true, true, true, true, true, true, false, true, true, true, true, true, true, true, true, true, true, false, false, false, false, false, false, false] rfl rfl (by kernel_rfl) (fun _ _ _ h => h) (Or.inl ⟨by rfl, ?_⟩) hHeld ?_ ?_
    rotate_left
    · rintro w' ⟨s0, s1, s2, s3⟩
      go_simp
      with_reducible rfl
    rotate_left
    · simp only [Act.put, List.setIfInBounds_toArray, List.set_cons_zero, List.set_cons_succ, i64_w, i32_w]
      rfl
    refine take_ (i := 23) (N := some 35) (v := ?_) (a' := ?_) #[true, true, true, true, true, true, true, true, true, true, true, true, false, true, true, true, true, true, true, true, true, true, true, true, false, false, false, false, false, false] rfl rfl (by kernel_rfl) (fun _ _ _ h => h) (Or.inl ⟨by rfl, ?_⟩) hHeld ?_ ?_
    rotate_left
    · rintro w' ⟨s0, s1, s2, s3⟩
      go_simp
      with_reducible rfl
    rotate_left
    · simp only [Act.put, List.setIfInBounds_toArray, List.set_cons_zero, List.set_cons_succ, i64_w, i32_w]
      rfl
    refine pure_ (i := 12) (N := some 24) (v := ?_) (a' := ?_) #[true, true, true, true, true, true, true, true, true, true, true, true, true, true, true, true, true, true, true, true, true, true, true, true, false, false, false, false, false, false] rfl rfl (by kernel_rfl) (fun _ _ _ h => h) (Or.inl ⟨by rfl, ?_⟩) ?_ ?_
    rotate_left
    · intro w'
      go_simp
      with_reducible rfl
    rotate_left
    · simp only [Act.put, List.setIfInBounds_toArray, List.set_cons_zero, List.set_cons_succ, i64_w, i32_w]
      rfl
    refine one_ (i := 24) (N := some 36) #[true, true, true, true, true, true, true, true, true, true, true, true, true, true, true, true, true, true, true, true, true, true, true, true, true, false, false, false, false, false] rfl rfl (by kernel_rfl) (by decide) (fun K hK => ?_)
    refine value_ (w1 := ?_) (v := ?_) (by rfl) rfl ?_ ?_
    rotate_left 2
    · go_simp
      constructor
      · rfl
      · rfl
    refine hK.out _ _ ⟨up (below_alloc HBd.out _) HX0.out, up (below_alloc HBd.out _) HX1.out, up (below_alloc HBd.out _) HY0.out, up (below_alloc HBd.out _) HY1.out⟩ (fun hHeld => ?_)
    clear hK K
    refine norm_ (a' := ?_) ?_ ?_
    rotate_left
    · show Act.put _ (some 36) _ = _
      simp only [Act.put, List.setIfInBounds_toArray, List.set_cons_zero, List.set_cons_succ, i64_w, i32_w]
      rfl
    refine one_ (i := 25) (N := some 37) #[true, true, true, true, true, true, true, true, true, true, true, true, true, true, true, true, true, true, true, true, true, true, true, true, true, true, false, false, false, false] rfl rfl (by kernel_rfl) (by decide) (fun K hK => ?_)
    refine goes_ Try.func42 (by kernel_rfl) rfl #[.slice (some ⟨wd.heap.size, 0, none⟩) 2 2] (by rfl) rfl rfl (by first | rfl | (simp only [List.map_toArray, List.map_cons, List.map_nil]; rfl)) ?_
    refine (HCON.out wd HBd.out).mono ?_
    rintro e w2 ⟨u, rfl, hu, hb⟩
    have HB2 := Aside0.mk (below_step HBd.out hb)
    have HV2 := Aside0.mk (Kd.R_below HVd.out hb)
    have HG2 := Aside0.mk (HGd.out.below hb)
    obtain ⟨A2, c2, e2⟩ := Kd.R_slice hu
    subst e2
    have HU := Aside0.mk hu
    clear hu hb
    refine ⟨_, rfl, ?_⟩
    refine hK.out _ _ ⟨up HB2.out HX0.out, up HB2.out HX1.out, up HB2.out HY0.out, up HB2.out HY1.out⟩ (fun hHeld => ?_)
    clear hK K
    refine norm_ (a' := ?_) ?_ ?_
    rotate_left
    · show Act.put _ (some 37) _ = _
      simp only [Act.put, List.setIfInBounds_toArray, List.set_cons_zero, List.set_cons_succ, i64_w, i32_w]
      rfl
    refine pure_ (i := 26) (N := some 38) (v := ?_) (a' := ?_) #[true, true, true, true, true, true, true, true, true, true, true, true, true, true, true, true, true, true, true, true, true, true, true, true, true, true, true, false, false, false] rfl rfl (by kernel_rfl) (fun _ _ _ h => h) (Or.inl ⟨by rfl, ?_⟩) ?_ ?_
    rotate_left
    · intro w'
      go_simp
      with_reducible rfl
    rotate_left
    · simp only [Act.put, List.setIfInBounds_toArray, List.set_cons_zero, List.set_cons_succ, i64_w, i32_w]
      rfl
    refine last_ (i := 27) (N := some 39) #[true, true, true, true, true, true, true, true, true, true, true, true, true, true, true, true, true, true, true, true, true, true, true, true, true, true, true, true, false, false] rfl rfl (by kernel_rfl) (by decide) (fun K hK => ?_)
    refine value_ (w1 := ?_) (v := ?_) (by rfl) rfl ?_ ?_
    rotate_left 2
    · go_simp
      constructor
      · rfl
      · rfl
    refine hK.out _ _ ?_
    clear hK K
    refine norm_ (a' := ?_) ?_ ?_
    rotate_left
    · show Act.put _ (some 39) _ = _
      simp only [Act.put, List.setIfInBounds_toArray, List.set_cons_zero, List.set_cons_succ, i64_w, i32_w]
      rfl
    refine last_ (i := 28) (N := some 40) #[true, true, true, true, true, true, true, true, true, true, true, true, true, true, true, true, true, true, true, true, true, true, true, true, true, true, true, true, true, false] rfl rfl (by kernel_rfl) (by decide) (fun K hK => ?_)
    refine Kd.R_append_step kCq (w0 := w) w.heap.size (by rfl) (.tmp 12) (.tmp 39) 50 52 (.agg #[.int .i64 0, .slice none 0 0]) 32 rfl Try.underlying50 inf52 rfl (by decide) (by omega) u3 l' (⟨x.o + y.o, s2, A2, c2⟩ : Cq) [.int .i64 (x.o + y.o), .slice A2 s2.length c2] (fun _ => True) (fun _ => False) rfl rfl ?aP (fun _ hk => hk.elim) ?aF ?aO ?aB ?aS ?aL ?_
    (case aP => exact rfl)
    (case aB => exact HB2.out)
    (case aF => exact (fun _ _ => trivial))
    (case aO => exact HV2.out)
    (case aS => exact below_size HB2.out)
    (case aL => have := HLen.out; omega)
    intro v5 w5 ho hb hg hat
    have HV5 := Aside0.mk ho
    have HB5 := Aside0.mk hb
    have HG5 := Aside0.mk (show Good ok0 w5 (l' ++ [(⟨x.o + y.o, s2, A2, c2⟩ : Cq)]) from HG2.out.snoc (x := ⟨x.o + y.o, s2, A2, c2⟩) HU.out HV2.out hg)
    clear ho hb hg hat
    refine hK.out _ _ ?_
    clear hK K
    refine norm_ (a' := ?_) ?_ ?_
    rotate_left
    · show Act.put _ (some 40) _ = _
      simp only [Act.put, List.setIfInBounds_toArray, List.set_cons_zero, List.set_cons_succ, i64_w, i32_w]
      rfl
    refine pure_ (i := 29) (N := some 3) (v := ?_) (a' := ?_) #[true, true, true, true, true, true, true, true, true, true, true, true, true, true, true, true, true, true, true, true, true, true, true, true, true, true, true, true, true, true] rfl rfl (by kernel_rfl) (fun _ _ _ h => h) (Or.inl ⟨by rfl, ?_⟩) ?_ ?_
    rotate_left
    · intro w'
      go_simp
      with_reducible rfl
    rotate_left
    · simp only [Act.put, List.setIfInBounds_toArray, List.set_cons_zero, List.set_cons_succ, i64_w, i32_w]
      rfl
    refine done_ (by kernel_rfl) ?_
    clear hw1 hw2
    have hw3 := HW3.out
    go_wp2
    go_roundg (l.length - (i + 2))
    case measure => have := HLT.out; have := HGG.out; omega
    case rel =>
      have h1 := HLT.out
      have h2 := HKK.out
      refine ⟨k + 1, _, l' ++ [(⟨x.o + y.o, s2, A2, c2⟩ : Cq)], by omega, by omega, ?_, rfl, HV5, HG5, ⟨?_⟩, HB5⟩
      · rw [show 2 * (k + 1) = i + 2 by omega]
        rfl
      · rw [List.map_append, HP.out, show 2 * (k + 1) = i + 2 by omega, HTK.out, List.map_append]
        show _ ++ [(x.o + y.o, s2)] = _
        rw [HS2.out]
        exact (pairsL_snoc k _ (pr x) (pr y) (by rw [List.length_map, List.length_take]; omega)).symm
end Go.Proofs.Ytachnclfgjdglaa.Coin
