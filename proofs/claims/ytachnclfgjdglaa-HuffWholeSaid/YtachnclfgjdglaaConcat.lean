/- slices.Grow of nil and slices.Concat, at coins and at whole numbers. The condition (at most a million elements) stands in each theorem. -/
import Derived.Test.YtachnclfgjdglaaCoin
namespace Go.Proofs.Ytachnclfgjdglaa.Coin
open Go.RowKit Go.Sort Go.Proofs.YtachnclfgjdglaaW.PrintWords Go.Proofs.YtachnclfgjdglaaW.PrintLast Go.Proofs.YtachnclfgjdglaaW.PrintMore Go.Proofs.YtachnclfgjdglaaSrt
set_option linter.unusedVariables false
set_option linter.unusedSimpArgs false

theorem inf52 : (Try.prog.info? 52).map (fun i => (i.zero, i.size, i.bytes)) = some (some (.agg #[.int .i64 0, .slice none 0 0]), 2, 32) := by kernel_rfl
theorem inf3 : (Try.prog.info? 3).map (fun i => (i.zero, i.size, i.bytes)) = some (some (.int .i64 0), 1, 8) := by kernel_rfl
/-- how many all are -/
def tot {α : Type} (ls : List (List α)) : Nat := (ls.map List.length).sum
theorem tot_take {α : Type} (ls : List (List α)) (k : Nat) (hk : k < ls.length) : tot (ls.take (k + 1)) = tot (ls.take k) + (ls.getD k []).length := by
  unfold tot
  rw [List.take_succ_eq_append_getElem hk, List.map_append, List.sum_append, List.getD_eq_getElem?_getD, List.getElem?_eq_getElem hk]
  simp
theorem flat_take {α : Type} (ls : List (List α)) (k : Nat) (hk : k < ls.length) : (ls.take (k + 1)).flatten = (ls.take k).flatten ++ ls.getD k [] := by
  rw [List.take_succ_eq_append_getElem hk, List.flatten_append, List.getD_eq_getElem?_getD, List.getElem?_eq_getElem hk]
  simp
theorem flat_len {α : Type} (ls : List (List α)) : ls.flatten.length = tot ls := by
  unfold tot
  rw [List.length_flatten]
theorem tot_le {α : Type} (ls : List (List α)) (k : Nat) : tot (ls.take k) ≤ tot ls := by
  unfold tot
  have h : (ls.map List.length).sum = ((ls.take k).map List.length).sum + ((ls.drop k).map List.length).sum := by
    rw [← List.sum_append, ← List.map_append, List.take_append_drop]
  omega
/-- a new block without elements -/
theorem R_fresh {α : Type} (d : Kd α) (e : Nat) (w : World) (cur : Array Value) (cap base : Nat) (hb : base ≤ w.heap.size) (hc : cap ≤ maxLen) (hs : cur.size = cap * d.sz) :
    d.R e (w.alloc (.cells cur e)) base (fun _ => True) (.slice (some ⟨w.heap.size, 0, none⟩) 0 cap) [] := by
  refine ⟨fun _ _ => trivial, [], ⟨by simp, .inr ⟨w.heap.size, cap, cur, rfl, hb, ?_, Nat.zero_le _, hc, hs, by simp⟩⟩, Reps.none _ _⟩
  exact heap_alloc_new w _


set_option maxHeartbeats 4000000 in
theorem growQ (n : Nat) (hn : n ≤ 1000000) (w : World) : Calls Try.prog 44 #[.slice none 0 0, .int .i64 n] w fun e w' => ∃ v, e = .returned v ∧ Kd.R kCq 52 w' w.heap.size (fun _ => True) v [] ∧ Below w.heap.size w w' := by
  by_cases h0 : n = 0
  · subst h0
    refine (Any8.slices_Grow_room Try.grow44 none 0 0 0 w (Nat.le_refl _) (by decide) (by decide) (by decide)).mono ?_
    rintro e w' ⟨rfl, rfl⟩
    exact ⟨_, rfl, Kd.R_nil _ _ _ _ _, Below.refl _ _⟩
  · obtain ⟨i0, hi, hz⟩ := Option.map_eq_some_iff.1 inf52
    simp only [Prod.mk.injEq] at hz
    obtain ⟨hz0, hz1, hz2⟩ := hz
    refine (Any8.slices_Grow_grow Try.grow44 i0 _ hi hz0 (by rw [hz1]; decide) none 0 0 n [] w (Nat.le_refl _) (by omega) (by rw [hz2]; omega) (by omega) (by simp) (fun _ => rfl) (fun a ha => by cases ha)).mono ?_
    rintro e w' ⟨rfl, rfl⟩
    refine ⟨_, rfl, ?_, below_alloc (below_drew (Below.refl _ _)) _⟩
    refine R_fresh kCq 52 w.drew _ _ _ (Nat.le_refl _) ?_ ?_
    · exact grownCap_le_maxLen w _ _ _ (by rw [show maxLen = 9223372036854775807 from rfl]; omega)
    · have hge := grownCap_ge w (0 + n) 0 (Try.grow44_ren.t 25)
      simp only [Array.size_append, Builtin.zeroCells, Array.size_map, Array.size_range]
      show ([] : List Value).toArray.size + (0 + n - 0) * 2 + (grownCap w (0 + n) 0 (Try.grow44_ren.t 25) - (0 + n)) * 2 = grownCap w (0 + n) 0 (Try.grow44_ren.t 25) * 2
      simp only [List.size_toArray, List.length_nil]
      omega
set_option maxHeartbeats 8000000 in
set_option maxRecDepth 100000 in
theorem concatQ (P0 : Option Addr) (c0 : Nat) (ls : List (List Cq)) (w : World) (hr : Kd.C (Kd.slice 52 kCq) w P0 ls.length ls) (hn : ls.length ≤ 1000) (hs : tot ls ≤ 1000000) :
    Calls Try.prog 38 #[.slice P0 ls.length c0] w fun e w' => ∃ v, e = .returned v ∧ Kd.R kCq 52 w' w.heap.size (fun _ => True) v ls.flatten ∧ Below w.heap.size w w' := by
  have HR := Aside0.mk hr
  have hg := fun W => growQ (tot ls) hs W
  have HG := Aside0.mk hg
  clear hr hg
  go_enter Try.func38, Try.ntmps38
  go_wp2
  go_loopg [3, 5, 11] ls.length (fun gg v3 _ v11 wr => ∃ k : Nat, k ≤ ls.length ∧ ls.length - k ≤ gg ∧ v11 = .int .i64 k ∧ v3 = .int .i64 (tot (ls.take k) : Nat) ∧ wr = w)
  case atStart => exact ⟨0, Nat.zero_le _, by omega, rfl, rfl, rfl⟩
  case round =>
    obtain ⟨k, hk, hgg, rfl, rfl, hw⟩ := hrel
    subst wr
    by_cases hlt : k < ls.length
    case neg =>
      have hke : k = ls.length := by omega
      subst hke
      rw [List.take_length]
      have hd1 : decide ((ls.length : Int) < (ls.length : Int)) = false := decide_eq_false (by omega)
      clear hk hgg hlt
      go_wp2_with (go_at_call 44; refine (HG.out _).mono ?_; rintro e w1 ⟨v, rfl, hv, hb⟩; have HV := Aside0.mk hv; have HB := Aside0.mk hb; clear hv hb)
      go_loopg [6, 8, 27] ls.length (fun gg v6 _ v27 w2 => ∃ (k : Nat) (v : Value), k ≤ ls.length ∧ ls.length - k ≤ gg ∧ v27 = .int .i64 k ∧ v6 = v ∧ Aside0 (Kd.R kCq 52 w2 w.heap.size (fun _ => True) v (ls.take k).flatten) ∧ Aside0 (Below w.heap.size w w2))
      case atStart => exact ⟨0, v, Nat.zero_le _, by omega, rfl, rfl, HV, HB⟩
      case round =>
        obtain ⟨k, v, hk, hgg, rfl, rfl, HV, HB⟩ := hrel
        by_cases hlt : k < ls.length
        case neg =>
          have hke : k = ls.length := by omega
          subst hke
          have hd1 : decide ((ls.length : Int) < (ls.length : Int)) = false := decide_eq_false (by omega)
          clear hk hgg hlt
          go_wp2
          go_ret
          refine ⟨_, rfl, ?_, HB.out⟩
          have := HV.out
          rwa [List.take_length] at this
        have hd1 : decide ((k : Int) < (ls.length : Int)) = true := decide_eq_true (by omega)
        obtain ⟨ad, c, e, hcl, hK, hcc⟩ := Kd.C_get HR.out [] (k : Int) (by omega) (by omega)
        cases e
        obtain ⟨A, cap, rfl, hcap, hC⟩ := hK
        have hcell0 := hcc 0 _ rfl
        rw [Int.toNat_natCast] at hcell0 hC
        rw [show (Kd.slice 52 kCq).sz = 1 from rfl, Nat.mul_one, Nat.add_zero] at hcell0
        have hlt0 := (Kd.C_get HR.out [] (k : Int) (by omega) (by omega))
        have hcell : wr.cell? (ad.add k) = some (.slice A (ls.getD k []).length cap) := (HB.out.cell (World.block_lt_of_cell? w _ hcell0)).trans hcell0
        have hflat := flat_take ls k hlt
        have hle := tot_le ls (k + 1)
        rw [← flat_len, hflat] at hle
        clear hcell0 hlt0
        generalize ls.getD k [] = xs at hcell hC hflat hle
        have hle2 : ((ls.take k).flatten.length + xs.length) * 32 ≤ 140737488355328 := by rw [List.length_append] at hle; omega
        have hC2 := Kd.C_below hC HB.out
        obtain ⟨m, hm⟩ : ∃ m, m = xs.length := ⟨_, rfl⟩
        rw [← hm] at hcell hC2 hle2
        have hw2 : wrap64 ((k : Int) + 1) = ((k + 1 : Nat) : Int) := by unfold wrap64; omega
        have HF := Aside0.mk hflat
        have HL := Aside0.mk hle2
        have HC := Aside0.mk hC2
        have HK := Aside0.mk hlt
        have HGG := Aside0.mk hgg
        clear hflat hle hle2 hm hgg hk hC hC2 hcap
        go_wp2_with ((with_reducible refine gate_builtin (b := .append) (xs := #[.tmp 31, .tmp 32]) rfl ?_); at_builtin; refine Kd.R_append_rows kCq (w0 := w) w.heap.size rfl (.tmp 31) (.tmp 32) 50 52 (.agg #[.int .i64 0, .slice none 0 0]) 32 rfl Try.underlying50 inf52 rfl (by decide) (by omega) _ _ xs _ _ _ (fun _ => True) (fun _ => False) rfl rfl HV.out HC.out (fun _ _ h => h) (fun _ h => h.elim) (fun _ _ => trivial) HB.out (below_size HB.out) HL.out ?_; intro v1 w5 ho hb hg hat; have HO := Aside0.mk ho; have HB5 := Aside0.mk hb; clear ho hb hg hat)
        go_roundg (ls.length - (k + 1))
        case measure => have := HK.out; have := HGG.out; omega
        case rel => have := HK.out; have := HGG.out; exact ⟨k + 1, v1, by omega, by omega, by go_num, rfl, ⟨by rw [HF.out]; exact HO.out⟩, HB5⟩
    have hd1 : decide ((k : Int) < (ls.length : Int)) = true := decide_eq_true (by omega)
    obtain ⟨ad, c, e, hcl, hK, hcc⟩ := Kd.C_get HR.out [] (k : Int) (by omega) (by omega)
    cases e
    obtain ⟨A, cap, rfl, hcap, hC⟩ := hK
    have hcell := hcc 0 _ rfl
    rw [Int.toNat_natCast] at hcell hC
    rw [show (Kd.slice 52 kCq).sz = 1 from rfl, Nat.mul_one, Nat.add_zero] at hcell
    have hsum := tot_take ls k hlt
    have hle := tot_le ls (k + 1)
    generalize ls.getD k [] = xs at hcell hsum hC
    obtain ⟨m, hm⟩ : ∃ m, m = xs.length := ⟨_, rfl⟩
    rw [← hm] at hcell hsum
    obtain ⟨T1, hT1⟩ : ∃ T1, T1 = tot (ls.take (k + 1)) := ⟨_, rfl⟩
    obtain ⟨T0, hT0⟩ : ∃ T0, T0 = tot (ls.take k) := ⟨_, rfl⟩
    rw [← hT1, ← hT0] at hsum
    rw [← hT1] at hle
    rw [← hT0]
    have hd2 : decide ((T1 : Int) < 0) = false := decide_eq_false (Int.not_lt.2 (Int.natCast_nonneg T1))
    have hw2 : wrap64 ((k : Int) + 1) = ((k + 1 : Nat) : Int) := by clear hd2; unfold wrap64; omega
    have hw1 : wrap64 ((T0 : Int) + (m : Int)) = (T1 : Int) := by clear hd2 hw2; unfold wrap64; omega
    have HT1 := Aside0.mk hT1
    have HK := Aside0.mk hlt
    have HGG := Aside0.mk hgg
    clear hsum hle hT1 hT0 hm hgg hk hC hcap
    go_wp2
    go_roundg (ls.length - (k + 1))
    case measure => have := HK.out; have := HGG.out; omega
    case rel => have := HK.out; have := HGG.out; exact ⟨k + 1, by omega, by omega, by go_num, by rw [hw1, ← HT1.out], rfl⟩


set_option maxHeartbeats 4000000 in
theorem growI (n : Nat) (hn : n ≤ 1000000) (w : World) : Calls Try.prog 47 #[.slice none 0 0, .int .i64 n] w fun e w' => ∃ v, e = .returned v ∧ Kd.R (Kd.int .i64) 3 w' w.heap.size (fun _ => True) v [] ∧ Below w.heap.size w w' := by
  by_cases h0 : n = 0
  · subst h0
    refine (Any8.slices_Grow_room Try.grow47 none 0 0 0 w (Nat.le_refl _) (by decide) (by decide) (by decide)).mono ?_
    rintro e w' ⟨rfl, rfl⟩
    exact ⟨_, rfl, Kd.R_nil _ _ _ _ _, Below.refl _ _⟩
  · obtain ⟨i0, hi, hz⟩ := Option.map_eq_some_iff.1 inf3
    simp only [Prod.mk.injEq] at hz
    obtain ⟨hz0, hz1, hz2⟩ := hz
    refine (Any8.slices_Grow_grow Try.grow47 i0 _ hi hz0 (by rw [hz1]; decide) none 0 0 n [] w (Nat.le_refl _) (by omega) (by rw [hz2]; omega) (by omega) (by simp) (fun _ => rfl) (fun a ha => by cases ha)).mono ?_
    rintro e w' ⟨rfl, rfl⟩
    refine ⟨_, rfl, ?_, below_alloc (below_drew (Below.refl _ _)) _⟩
    refine R_fresh (Kd.int .i64) 3 w.drew _ _ _ (Nat.le_refl _) ?_ ?_
    · exact grownCap_le_maxLen w _ _ _ (by rw [show maxLen = 9223372036854775807 from rfl]; omega)
    · have hge := grownCap_ge w (0 + n) 0 (Try.grow47_ren.t 25)
      simp only [Array.size_append, Builtin.zeroCells, Array.size_map, Array.size_range]
      show ([] : List Value).toArray.size + (0 + n - 0) * 1 + (grownCap w (0 + n) 0 (Try.grow47_ren.t 25) - (0 + n)) * 1 = grownCap w (0 + n) 0 (Try.grow47_ren.t 25) * 1
      simp only [List.size_toArray, List.length_nil]
      omega
set_option maxHeartbeats 8000000 in
set_option maxRecDepth 100000 in
theorem concatI (P0 : Option Addr) (c0 : Nat) (ls : List (List Int)) (w : World) (hr : Kd.C (Kd.slice 3 (Kd.int .i64)) w P0 ls.length ls) (hn : ls.length ≤ 1000) (hs : tot ls ≤ 1000000) :
    Calls Try.prog 42 #[.slice P0 ls.length c0] w fun e w' => ∃ v, e = .returned v ∧ Kd.R (Kd.int .i64) 3 w' w.heap.size (fun _ => True) v ls.flatten ∧ Below w.heap.size w w' := by
  have HR := Aside0.mk hr
  have hg := fun W => growI (tot ls) hs W
  have HG := Aside0.mk hg
  clear hr hg
  go_enter Try.func42, Try.ntmps42
  go_wp2
  go_loopg [3, 5, 11] ls.length (fun gg v3 _ v11 wr => ∃ k : Nat, k ≤ ls.length ∧ ls.length - k ≤ gg ∧ v11 = .int .i64 k ∧ v3 = .int .i64 (tot (ls.take k) : Nat) ∧ wr = w)
  case atStart => exact ⟨0, Nat.zero_le _, by omega, rfl, rfl, rfl⟩
  case round =>
    obtain ⟨k, hk, hgg, rfl, rfl, hw⟩ := hrel
    subst wr
    by_cases hlt : k < ls.length
    case neg =>
      have hke : k = ls.length := by omega
      subst hke
      rw [List.take_length]
      have hd1 : decide ((ls.length : Int) < (ls.length : Int)) = false := decide_eq_false (by omega)
      clear hk hgg hlt
      go_wp2_with (go_at_call 47; refine (HG.out _).mono ?_; rintro e w1 ⟨v, rfl, hv, hb⟩; have HV := Aside0.mk hv; have HB := Aside0.mk hb; clear hv hb)
      go_loopg [6, 8, 27] ls.length (fun gg v6 _ v27 w2 => ∃ (k : Nat) (v : Value), k ≤ ls.length ∧ ls.length - k ≤ gg ∧ v27 = .int .i64 k ∧ v6 = v ∧ Aside0 (Kd.R (Kd.int .i64) 3 w2 w.heap.size (fun _ => True) v (ls.take k).flatten) ∧ Aside0 (Below w.heap.size w w2))
      case atStart => exact ⟨0, v, Nat.zero_le _, by omega, rfl, rfl, HV, HB⟩
      case round =>
        obtain ⟨k, v, hk, hgg, rfl, rfl, HV, HB⟩ := hrel
        by_cases hlt : k < ls.length
        case neg =>
          have hke : k = ls.length := by omega
          subst hke
          have hd1 : decide ((ls.length : Int) < (ls.length : Int)) = false := decide_eq_false (by omega)
          clear hk hgg hlt
          go_wp2
          go_ret
          refine ⟨_, rfl, ?_, HB.out⟩
          have := HV.out
          rwa [List.take_length] at this
        have hd1 : decide ((k : Int) < (ls.length : Int)) = true := decide_eq_true (by omega)
        obtain ⟨ad, c, e, hcl, hK, hcc⟩ := Kd.C_get HR.out [] (k : Int) (by omega) (by omega)
        cases e
        obtain ⟨A, cap, rfl, hcap, hC⟩ := hK
        have hcell0 := hcc 0 _ rfl
        rw [Int.toNat_natCast] at hcell0 hC
        rw [show (Kd.slice 3 (Kd.int .i64)).sz = 1 from rfl, Nat.mul_one, Nat.add_zero] at hcell0
        have hlt0 := (Kd.C_get HR.out [] (k : Int) (by omega) (by omega))
        have hcell : wr.cell? (ad.add k) = some (.slice A (ls.getD k []).length cap) := (HB.out.cell (World.block_lt_of_cell? w _ hcell0)).trans hcell0
        have hflat := flat_take ls k hlt
        have hle := tot_le ls (k + 1)
        rw [← flat_len, hflat] at hle
        clear hcell0 hlt0
        generalize ls.getD k [] = xs at hcell hC hflat hle
        have hle2 : ((ls.take k).flatten.length + xs.length) * 8 ≤ 140737488355328 := by rw [List.length_append] at hle; omega
        have hC2 := Kd.C_below hC HB.out
        obtain ⟨m, hm⟩ : ∃ m, m = xs.length := ⟨_, rfl⟩
        rw [← hm] at hcell hC2 hle2
        have hw2 : wrap64 ((k : Int) + 1) = ((k + 1 : Nat) : Int) := by unfold wrap64; omega
        have HF := Aside0.mk hflat
        have HL := Aside0.mk hle2
        have HC := Aside0.mk hC2
        have HK := Aside0.mk hlt
        have HGG := Aside0.mk hgg
        clear hflat hle hle2 hm hgg hk hC hC2 hcap
        go_wp2_with ((with_reducible refine gate_builtin (b := .append) (xs := #[.tmp 31, .tmp 32]) rfl ?_); at_builtin; refine Kd.R_append_rows (Kd.int .i64) (w0 := w) w.heap.size rfl (.tmp 31) (.tmp 32) 22 3 (.int .i64 0) 8 rfl Try.underlying22 inf3 rfl (by decide) (by omega) _ _ xs _ _ _ (fun _ => True) (fun _ => False) rfl rfl HV.out HC.out (fun _ _ h => h) (fun _ h => h.elim) (fun _ _ => trivial) HB.out (below_size HB.out) HL.out ?_; intro v1 w5 ho hb hg hat; have HO := Aside0.mk ho; have HB5 := Aside0.mk hb; clear ho hb hg hat)
        go_roundg (ls.length - (k + 1))
        case measure => have := HK.out; have := HGG.out; omega
        case rel => have := HK.out; have := HGG.out; exact ⟨k + 1, v1, by omega, by omega, by go_num, rfl, ⟨by rw [HF.out]; exact HO.out⟩, HB5⟩
    have hd1 : decide ((k : Int) < (ls.length : Int)) = true := decide_eq_true (by omega)
    obtain ⟨ad, c, e, hcl, hK, hcc⟩ := Kd.C_get HR.out [] (k : Int) (by omega) (by omega)
    cases e
    obtain ⟨A, cap, rfl, hcap, hC⟩ := hK
    have hcell := hcc 0 _ rfl
    rw [Int.toNat_natCast] at hcell hC
    rw [show (Kd.slice 3 (Kd.int .i64)).sz = 1 from rfl, Nat.mul_one, Nat.add_zero] at hcell
    have hsum := tot_take ls k hlt
    have hle := tot_le ls (k + 1)
    generalize ls.getD k [] = xs at hcell hsum hC
    obtain ⟨m, hm⟩ : ∃ m, m = xs.length := ⟨_, rfl⟩
    rw [← hm] at hcell hsum
    obtain ⟨T1, hT1⟩ : ∃ T1, T1 = tot (ls.take (k + 1)) := ⟨_, rfl⟩
    obtain ⟨T0, hT0⟩ : ∃ T0, T0 = tot (ls.take k) := ⟨_, rfl⟩
    rw [← hT1, ← hT0] at hsum
    rw [← hT1] at hle
    rw [← hT0]
    have hd2 : decide ((T1 : Int) < 0) = false := decide_eq_false (Int.not_lt.2 (Int.natCast_nonneg T1))
    have hw2 : wrap64 ((k : Int) + 1) = ((k + 1 : Nat) : Int) := by clear hd2; unfold wrap64; omega
    have hw1 : wrap64 ((T0 : Int) + (m : Int)) = (T1 : Int) := by clear hd2 hw2; unfold wrap64; omega
    have HT1 := Aside0.mk hT1
    have HK := Aside0.mk hlt
    have HGG := Aside0.mk hgg
    clear hsum hle hT1 hT0 hm hgg hk hC hcap
    go_wp2
    go_roundg (ls.length - (k + 1))
    case measure => have := HK.out; have := HGG.out; omega
    case rel => have := HK.out; have := HGG.out; exact ⟨k + 1, by omega, by omega, by go_num, by rw [hw1, ← HT1.out], rfl⟩

end Go.Proofs.Ytachnclfgjdglaa.Coin
