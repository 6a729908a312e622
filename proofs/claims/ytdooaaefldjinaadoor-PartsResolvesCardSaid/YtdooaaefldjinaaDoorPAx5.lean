-- Printed by a program of this workplace (a turned printer): functions, and proofs that the calls come to them.
import Derived.Test.YtdooaaefldjinaaDoorPAx0
import Derived.Test.YtdooaaefldjinaaDoorPAx2
import Derived.Test.YtdooaaefldjinaaDoorPAx3
import Derived.Test.YtdooaaefldjinaaDoorPAx4
namespace Go.Proofs.YtdooaaefldjinaaDoor.PA
open Go.RowKit Go.Proofs.YtdooaaefldjinaaDoorW.PrintWords Go.Proofs.YtdooaaefldjinaaDoorW.PrintLast Go.Proofs.YtdooaaefldjinaaDoorW.PrintMore
attribute [local go_sem] max2_int min2_int max_two min_two max_three min_three max_four min_four   -- for this text's walks alone
set_option linter.unusedVariables false
set_option linter.unusedSimpArgs false

/-! ### rubricatorref12_Resolve: function 9 -/
def rubricatorref12_Resolve.steps : List ByteArray → List ByteArray → Option (List ByteArray)
  | st, [] => some st
  | st, p :: r => if p.toList = ([46] : List UInt8) then rubricatorref12_Resolve.steps st r else if p.toList = ([46, 46] : List UInt8) then (if st.length = 0 then none else rubricatorref12_Resolve.steps (st.take (st.length - 1)) r) else rubricatorref12_Resolve.steps (st ++ [p]) r
def rubricatorref12_Resolve.out : List ByteArray → ByteArray → ByteArray
  | [], o => o
  | p :: r, o => rubricatorref12_Resolve.out r ((o ++ (⟨#[47]⟩ : ByteArray)) ++ p)
theorem rubricatorref12_Resolve.out_le : ∀ (l : List ByteArray) (o : ByteArray), o.size ≤ (rubricatorref12_Resolve.out l o).size
  | [], o => Nat.le_refl _
  | p :: r, o => by
    have := rubricatorref12_Resolve.out_le r ((o ++ (⟨#[47]⟩ : ByteArray)) ++ p)
    rw [ByteArray.size_append, ByteArray.size_append] at this
    rw [rubricatorref12_Resolve.out]
    omega
def rubricatorref12_Resolve.end_ (k : Nat) (o : Option (List ByteArray)) : Option (ByteArray × Bool) := match o with
  | none => some ((⟨#[]⟩ : ByteArray), false)
  | some st => if (rubricatorref12_Resolve.out st (⟨#[]⟩ : ByteArray)).size ≤ 1000000 then ((rubricatorref12_Is.f k (rubricatorref12_Resolve.out st (⟨#[]⟩ : ByteArray))).bind fun b => some (if b = true then (rubricatorref12_Resolve.out st (⟨#[]⟩ : ByteArray), true) else ((⟨#[]⟩ : ByteArray), false))) else none
def rubricatorref12_Resolve.init (k : Nat) (a0 a1 : ByteArray) : Option (List ByteArray × ByteArray) := if bt a1 0 = 47 then some ([], a1.extract 1 a1.size) else ((rubricatorref12_stroke.f k a0).bind fun t => if 0 < t then (if t ≤ (a0.size : Int) then ((rubricatorref12_cut.f k (a0.extract 1 t.toNat)).bind fun l => some (l, a1)) else none) else some ([], a1))
def rubricatorref12_Resolve.main (k : Nat) (lt : List ByteArray × ByteArray) : Option (ByteArray × Bool) := (rubricatorref12_cut.f k lt.2).bind fun ps => if ps.length ≤ 1000000 ∧ lt.1.length ≤ 1000000 then rubricatorref12_Resolve.end_ k (rubricatorref12_Resolve.steps lt.1 ps) else none
def rubricatorref12_Resolve.okF (k : Nat) (a0 : ByteArray) : Option Bool := if a0.toList = ([] : List UInt8) then some true else rubricatorref12_Is.f k a0
def rubricatorref12_Resolve.f (k : Nat) (a0 a1 : ByteArray) : Option (ByteArray × Bool) := if a0.size + a1.size ≤ 1000 then ((rubricatorref12_Resolve.okF k a0).bind fun b => if (!b || (a1.toList == ([] : List UInt8))) = true then some ((⟨#[]⟩ : ByteArray), false) else ((rubricatorref12_Resolve.init k a0 a1).bind fun lt => rubricatorref12_Resolve.main k lt)) else none
theorem rubricatorref12_Resolve.mono : ∀ a0 a1 k, LeO (rubricatorref12_Resolve.f k a0 a1) (rubricatorref12_Resolve.f (k + 1) a0 a1) := by
  intro a0 a1 k
  unfold rubricatorref12_Resolve.f rubricatorref12_Resolve.okF
  refine LeO.ite (LeO.bind (LeO.ite (LeO.refl _) (rubricatorref12_Is.mono _ _)) (fun b => LeO.ite (LeO.refl _) (LeO.bind ?_ (fun lt => ?_)))) (LeO.refl _)
  · unfold rubricatorref12_Resolve.init
    exact LeO.ite (LeO.refl _) (LeO.bind (rubricatorref12_stroke.mono _ _) (fun t => LeO.ite (LeO.ite (LeO.bind (rubricatorref12_cut.mono _ _) (fun _ => LeO.refl _)) (LeO.refl _)) (LeO.refl _)))
  · unfold rubricatorref12_Resolve.main
    refine LeO.bind (rubricatorref12_cut.mono _ _) (fun ps => LeO.ite ?_ (LeO.refl _))
    unfold rubricatorref12_Resolve.end_
    split
    · exact LeO.refl _
    · exact LeO.ite (LeO.bind (rubricatorref12_Is.mono _ _) (fun _ => LeO.refl _)) (LeO.refl _)
theorem rubricatorref12_Resolve.one_row {w : World} {kk : Nat} {p : ByteArray} (h : w.heap[kk]? = some (.cells [Value.string p].toArray 9 (0, 0))) : Kd.C Kd.string w (some ⟨kk, 0, none⟩) 1 [p] := by
  refine Kd.C_of_reads (d := ByteArray.empty) (h1 := fun _ => rfl) ⟨rfl, by omega, fun _ => ⟨_, rfl, fun j hj => ?_⟩⟩
  obtain rfl : j = 0 := by simpa using hj
  rw [add_plain, blk_cell h 0]
  rfl
set_option maxHeartbeats 4000000 in
set_option maxRecDepth 100000 in
theorem rubricatorref12_Resolve.calls (k : Nat) (a0 : ByteArray) (a1 : ByteArray) (r1 : ByteArray) (r2 : Bool) (w : World) (h : rubricatorref12_Resolve.f k a0 a1 = some (r1, r2)) :
    Calls Tryd.prog 9 #[.string a0, .string a1] w fun e w' => e = .returned (.tuple #[.string r1, .bool r2]) ∧ Below w.heap.size w w' := by
  unfold rubricatorref12_Resolve.f at h
  by_cases hz : a0.size + a1.size ≤ 1000
  case neg =>
    rw [if_neg hz] at h
    exact absurd h (by simp)
  rw [if_pos hz] at h
  obtain ⟨b, hb, h⟩ := Option.bind_eq_some_iff.mp h
  obtain ⟨z1, hz1⟩ : ∃ z, (a1.toList == ([] : List UInt8)) = z := ⟨_, rfl⟩
  rw [hz1] at h
  have H := Aside0.mk h
  have HB1 := Aside0.mk hb
  have HZ := Aside0.mk hz
  have HZ1 := Aside0.mk hz1
  clear h hb hz
  go_enter Tryd.func9, Tryd.ntmps9
  go_upto_region 1 with (fail)
  go_cut [22] (fun v22 wc => v22 = .bool (!b || z1) ∧ Aside0 (Below w.heap.size w wc))
  case first =>
    by_cases c4 : a0.toList = ([] : List UInt8)
    · have c4b0 : (a0.toList == ([] : List UInt8)) = true := beq_iff_eq.mpr c4
      have c4b1 : (a0.toList != ([] : List UInt8)) = false := bne_eq_false_iff_eq.mpr c4
      have eb : b = true := by
        have := HB1.out
        unfold rubricatorref12_Resolve.okF at this
        rw [if_pos c4] at this
        exact (Option.some.inj this).symm
      subst eb
      clear c4
      go_wp2
      go_meet
      case rel => exact ⟨by first | rfl | simp, ⟨Below.refl _ _⟩⟩
    · have c4b0 : (a0.toList == ([] : List UInt8)) = false := beq_eq_false_iff_ne.mpr c4
      have c4b1 : (a0.toList != ([] : List UInt8)) = true := bne_iff_ne.mpr c4
      have HI := Aside0.mk (show rubricatorref12_Is.f k a0 = some b by
        have := HB1.out
        unfold rubricatorref12_Resolve.okF at this
        rwa [if_neg c4] at this)
      clear c4
      cases b
      all_goals
        go_wp2_with ((with_reducible refine gate_callee (f := 12) rfl ?_); refine gate_guard (by rfl) ?_; dsimp only; refine goesL_ (some 16) rfl rfl Tryd.func12 (by kernel_rfl) rfl #[.string a0] rfl (by (try simp only [List.map_toArray, List.map_cons, List.map_nil]); first | done | rfl) ?_; refine (rubricatorref12_Is.calls k a0 _ w HI.out).mono ?_; rintro e w1 ⟨rfl, hd⟩; refine ⟨_, rfl, ?_⟩; have HD := Aside0.mk hd; clear hd)
        go_meet
        case rel => exact ⟨by first | rfl | simp, ⟨HD.out⟩⟩
  case rest =>
    clear HB1
    obtain ⟨rfl, HB⟩ := hcut
    cases hfl : (!b || z1) with
    | true =>
      have h := H.out
      rw [hfl, if_pos rfl] at h
      simp only [Option.some.injEq, Prod.mk.injEq] at h
      obtain ⟨rfl, rfl⟩ := h
      go_wp2
      go_ret2
      exact ⟨rfl, HB.out⟩
    | false =>
      have h := H.out
      rw [hfl, if_neg (by simp)] at h
      obtain ⟨⟨L0, tg⟩, hin, hmn⟩ := Option.bind_eq_some_iff.mp h
      have hz1f : z1 = false := by cases z1 with
        | false => rfl
        | true => simp at hfl
      have hne : a1.toList ≠ ([] : List UInt8) := by
        have := HZ1.out
        rw [hz1f] at this
        exact beq_eq_false_iff_ne.mp this
      have hl1 : 0 < a1.size := by
        rcases Nat.eq_zero_or_pos a1.size with h0 | h0
        · exfalso
          apply hne
          rw [Lib.toList_data]
          exact List.eq_nil_of_length_eq_zero (by rw [data_length]; exact h0)
        · exact h0
      have HIN := Aside0.mk hin
      have HMN := Aside0.mk hmn
      have HA1 := Aside0.mk hl1
      have hx0 : ∀ h : 0 < a1.size, ((a1[0]'h).toNat : Int) = bt a1 0 := bt_at a1 0
      have q00 : (0 < a1.size) = True := eq_true hl1
      have q01 : (0 < (a1.size : Int)) = True := eq_true (by omega)
      have dq1 : decide (0 < (a1.size : Int)) = true := decide_eq_true (by omega)
      have u1 : (1 ≤ (a1.size : Int)) = True := eq_true (by omega)
      clear h hin hmn hne hl1 hz1f H
      go_upto_if 25 with (fail)
      go_cut [1, 6] (fun v1 v6 wc => ∃ (A : Option Addr) (c : Nat), v1 = .string tg ∧ v6 = .slice A L0.length c ∧ Aside0 (Kd.C Kd.string wc A L0.length L0 ∧ L0.length ≤ c) ∧ Aside0 (Below w.heap.size w wc))
      case first =>
        have hin := HIN.out
        unfold rubricatorref12_Resolve.init at hin
        by_cases c13 : (bt a1 0) = 47
        · rw [if_pos c13] at hin
          simp only [Option.some.injEq, Prod.mk.injEq] at hin
          obtain ⟨rfl, rfl⟩ := hin
          have c13b0 : ((bt a1 0) == 47) = true := beq_iff_eq.mpr c13
          clear c13
          go_wp2
          go_meet
          case rel => exact ⟨none, 0, by first | rfl | simp, by first | rfl | simp, ⟨⟨by simp, by simp, fun h => by simp at h⟩, Nat.le_refl _⟩, HB⟩
        · rw [if_neg c13] at hin
          obtain ⟨t, ht, hin⟩ := Option.bind_eq_some_iff.mp hin
          have c13b0 : ((bt a1 0) == 47) = false := beq_eq_false_iff_ne.mpr c13
          have HT := Aside0.mk ht
          clear c13 ht
          by_cases c14 : 0 < t
          · rw [if_pos c14] at hin
            by_cases c15 : t ≤ (a0.size : Int)
            · rw [if_pos c15] at hin
              obtain ⟨l, hc, hin⟩ := Option.bind_eq_some_iff.mp hin
              simp only [Option.some.injEq, Prod.mk.injEq] at hin
              obtain ⟨rfl, rfl⟩ := hin
              have c14b0 : decide (0 < t) = true := decide_eq_true c14
              have c14t : (0 < t) = True := eq_true c14
              obtain ⟨y, hy⟩ : ∃ y, a0.extract 1 t.toNat = y := ⟨_, rfl⟩
              rw [hy] at hc
              have HC := Aside0.mk hc
              have hs2 : ∀ W : World, (Instr.slice 9 (.string a0) (some (.int .i64 1)) (some (.int .i64 t)) none).run Tryd.prog W = .ok (.string y) W := by
                intro W
                rw [run_slice_string W 9 a0 .i64 .i64 1 t Tryd.underlying9 (by omega) (by omega) (by omega)]
                rw [← hy]
                rfl
              clear c14 c15 hc hy
              go_wp2_with (first | ((with_reducible refine gate_callee (f := 21) rfl ?_); refine goesL_ (some 29) rfl rfl Tryd.func21 (by kernel_rfl) rfl #[.string a0] rfl (by (try simp only [List.map_toArray, List.map_cons, List.map_nil]); first | done | rfl) ?_; refine (rubricatorref12_stroke.calls k a0 t _ HT.out).mono ?_; rintro e w2 ⟨rfl, hd⟩; refine ⟨_, rfl, ?_⟩; have HB2 := Aside0.mk (HB.out.trans (hd.below.mono HB.out.size)); clear hd) | ((with_reducible refine gate_callee (f := 22) rfl ?_); refine goesL_ (some 35) rfl rfl Tryd.func22 (by kernel_rfl) rfl #[.string y] rfl (by (try simp only [List.map_toArray, List.map_cons, List.map_nil]); first | done | rfl) ?_; refine (rubricatorref12_cut.calls k y _ _ HC.out).mono ?_; rintro e w3 ⟨v3, rfl, h1, h2⟩; refine ⟨_, rfl, ?_⟩; obtain ⟨A3, c3, e3, hle3, hC3⟩ := Kd.R_reads h1; subst e3; have HR3 := Aside0.mk (And.intro hC3 hle3); have HB3 := Aside0.mk (HB2.out.trans (h2.mono HB2.out.size)); clear h1 h2 hC3 hle3))
              go_meet
              case rel => exact ⟨A3, c3, by first | rfl | simp, by first | rfl | simp, HR3, HB3⟩
            · rw [if_neg c15] at hin
              exact absurd hin (by simp)
          · rw [if_neg c14] at hin
            simp only [Option.some.injEq, Prod.mk.injEq] at hin
            obtain ⟨rfl, rfl⟩ := hin
            have c14b0 : decide (0 < t) = false := decide_eq_false c14
            clear c14
            go_wp2_with ((with_reducible refine gate_callee (f := 21) rfl ?_); refine goesL_ (some 29) rfl rfl Tryd.func21 (by kernel_rfl) rfl #[.string a0] rfl (by (try simp only [List.map_toArray, List.map_cons, List.map_nil]); first | done | rfl) ?_; refine (rubricatorref12_stroke.calls k a0 t _ HT.out).mono ?_; rintro e w2 ⟨rfl, hd⟩; refine ⟨_, rfl, ?_⟩; have HB2 := Aside0.mk (HB.out.trans (hd.below.mono HB.out.size)); clear hd)
            go_meet
            case rel => exact ⟨none, 0, by first | rfl | simp, by first | rfl | simp, ⟨⟨by simp, by simp, fun h => by simp at h⟩, Nat.le_refl _⟩, HB2⟩
      case rest =>
        clear HIN HB
        obtain ⟨A0, c0, rfl, rfl, HL0, HB⟩ := hcut
        have hmn := HMN.out
        unfold rubricatorref12_Resolve.main at hmn
        obtain ⟨ps, hps, hmn⟩ := Option.bind_eq_some_iff.mp hmn
        simp only at hps hmn
        by_cases hlen : ps.length ≤ 1000000 ∧ L0.length ≤ 1000000
        case neg =>
          rw [if_neg hlen] at hmn
          exact absurd hmn (by simp)
        rw [if_pos hlen] at hmn
        have HPS := Aside0.mk hps
        have HE := Aside0.mk hmn
        have HLN := Aside0.mk hlen
        clear hps hmn hlen HMN
        go_wp2_with ((with_reducible refine gate_callee (f := 22) rfl ?_); refine goesL_ (some 37) rfl rfl Tryd.func22 (by kernel_rfl) rfl #[.string tg] rfl (by (try simp only [List.map_toArray, List.map_cons, List.map_nil]); first | done | rfl) ?_; refine (rubricatorref12_cut.calls k tg ps _ HPS.out).mono ?_; rintro e w4 ⟨v4, rfl, h1, h2⟩; refine ⟨_, rfl, ?_⟩; obtain ⟨Ap, cp, e4, hle4, hC4⟩ := Kd.R_reads h1; subst e4; have HP4 := Aside0.mk hC4; have HB4 := Aside0.mk (HB.out.trans (h2.mono HB.out.size)); have HL4 := Aside0.mk (Kd.C_below HL0.out.1 h2); clear h1 h2 hC4 hle4)
        go_loopw [6, 9] (fun v6 v9 wr => ∃ (j : Nat) (jj : Int) (L : List ByteArray) (A : Option Addr) (c : Nat), v6 = .slice A L.length c ∧ v9 = .int .i64 jj ∧ jj = (j : Int) ∧ j ≤ ps.length ∧ Aside0 (rubricatorref12_Resolve.steps L (ps.drop j) = rubricatorref12_Resolve.steps L0 ps) ∧ Aside0 (L.length ≤ 1000000 + j) ∧ Aside0 (Kd.C Kd.string wr A L.length L ∧ L.length ≤ c) ∧ Aside0 (Below w4.heap.size w4 wr)) (fun _ v9 _ => ps.length - (intOf v9).toNat)
        case atStart => exact ⟨0, 0, L0, A0, c0, rfl, rfl, rfl, Nat.zero_le _, ⟨rfl⟩, ⟨HLN.out.2⟩, ⟨HL4.out, HL0.out.2⟩, ⟨Below.refl _ _⟩⟩
        case round =>
          obtain ⟨j, jj, L, A, c, rfl, rfl, hjj, hjl, HST, HLl, HLr, HBr⟩ := hrel
          by_cases hlt : jj < (ps.length : Int)
          · have dlt : decide (jj < (ps.length : Int)) = true := decide_eq_true hlt
            have pj : 0 ≤ jj := by omega
            have d0 : decide (0 ≤ jj) = true := decide_eq_true pj
            have hjn : j < ps.length := by omega
            obtain ⟨ap, eap, hx⟩ := ReadsOf.at_ (Kd.reads_of_C (enc := Value.string) (d := ByteArray.empty) (h1 := fun _ => rfl) (Kd.C_below HP4.out HBr.out)) jj pj hlt
            obtain ⟨p, hp⟩ : ∃ p, ps[j] = p := ⟨_, rfl⟩
            have hpe : rdOf ByteArray.empty ps jj = p := by
              unfold rdOf
              rw [show jj.toNat = j by omega, List.getD_eq_getElem?_getD, List.getElem?_eq_getElem hjn, ← hp]
              rfl
            rw [hpe] at hx
            subst eap
            have HX := Aside0.mk hx
            have hd : ps.drop j = p :: ps.drop (j + 1) := by rw [List.drop_eq_getElem_cons hjn, hp]
            have hst := HST.out
            rw [hd, rubricatorref12_Resolve.steps] at hst
            have t5 : wrap64 (jj + 1) = jj + 1 := by unfold wrap64; have := HLN.out.1; omega
            have HI := Aside0.mk (show jj = (j : Int) ∧ j < ps.length from ⟨hjj, hjn⟩)
            have HZL := Aside0.mk (show L.length ≤ 2000000 by have := HLl.out; have := HLN.out.1; omega)
            have HL := Aside0.mk HLr.out.1
            have q0 := eq_true hlt
            clear hp hpe hd HST
            replace pj := eq_true pj
            by_cases c1 : p.toList = ([46] : List UInt8)
            · rw [if_pos c1] at hst
              have HNX := Aside0.mk hst
              have c1b0 : (p.toList == ([46] : List UInt8)) = true := beq_iff_eq.mpr c1
              clear c1 hst hlt hjj hjl hjn
              go_wp2
              go_roundw
              case rel =>
                have := HI.out
                exact ⟨j + 1, _, L, A, c, rfl, rfl, by rw [t5]; omega, by omega, HNX, ⟨by have := HLl.out; omega⟩, HLr, HBr⟩
              case measure =>
                have := HI.out
                simp only [intOf, t5]
                omega
            · rw [if_neg c1] at hst
              have c1b0 : (p.toList == ([46] : List UInt8)) = false := beq_eq_false_iff_ne.mpr c1
              by_cases c2 : p.toList = ([46, 46] : List UInt8)
              · rw [if_pos c2] at hst
                have c2b0 : (p.toList == ([46, 46] : List UInt8)) = true := beq_iff_eq.mpr c2
                by_cases c3 : L.length = 0
                · rw [if_pos c3] at hst
                  have he := HE.out
                  rw [← hst] at he
                  simp only [rubricatorref12_Resolve.end_, Option.some.injEq, Prod.mk.injEq] at he
                  obtain ⟨rfl, rfl⟩ := he
                  have c3b0 : ((L.length : Int) == 0) = true := beq_iff_eq.mpr (by omega)
                  clear c1 c2 c3 hst hlt hjj hjl hjn
                  go_wp2
                  go_ret2
                  exact ⟨rfl, HB4.out.trans (HBr.out.mono HB4.out.size)⟩
                · rw [if_neg c3] at hst
                  have HNX := Aside0.mk hst
                  have c3b0 : ((L.length : Int) == 0) = false := beq_eq_false_iff_ne.mpr (by omega)
                  obtain ⟨m, hm⟩ : ∃ m : Int, wrap64 ((L.length : Int) - 1) = m := ⟨_, rfl⟩
                  have em : m = ((L.length - 1 : Nat) : Int) := by rw [← hm]; unfold wrap64; have := HZL.out; omega
                  obtain ⟨i9, hi9, _, hsz9, _⟩ := info_parts info9
                  obtain ⟨hcut, hA, hle⟩ := print_take_of (P := Tryd.prog) Value.string ByteArray.empty 31 9 .i64 Tryd.underlying31 hi9 hsz9 A c L m (by omega) (by omega) HLr.out.2
                  have hC2 := Kd.C_of_reads (h1 := fun _ => rfl) (hA wr (Kd.reads_of_C (h1 := fun _ => rfl) HLr.out.1))
                  have et : m.toNat = L.length - 1 := by omega
                  rw [et] at hcut hC2 hle
                  have HC2 := Aside0.mk (And.intro hC2 hle)
                  clear c1 c2 c3 hst hlt hjj hjl hjn em et hA hC2 hle hi9 hsz9
                  go_wp2
                  go_roundw
                  case rel =>
                    have := HI.out
                    exact ⟨j + 1, _, L.take (L.length - 1), A, c, by first | rfl | simp, rfl, by rw [t5]; omega, by omega, HNX, ⟨by rw [List.length_take]; have := HLl.out; omega⟩, HC2, HBr⟩
                  case measure =>
                    have := HI.out
                    simp only [intOf, t5]
                    omega
              · rw [if_neg c2] at hst
                have HNX := Aside0.mk hst
                have c2b0 : (p.toList == ([46, 46] : List UInt8)) = false := beq_eq_false_iff_ne.mpr c2
                clear c1 c2 hst hlt hjj hjl hjn
                go_wp2
                refine start_ (n := 10) (S := fun w' => w'.cell? (ap.add jj.toNat) = some (.string p)) (ds := []) #[false, false, false, false, false, false, false, false, false, false] (by kernel_rfl) rfl rfl HX.out (fun hHeld => ?_)
                have HBv0 := Aside0.mk (show Below wr.heap.size wr wr.drew from (Below.refl _ _).drew)
                generalize wr.drew = v0 at HBv0 hHeld ⊢
                refine pure_ (i := 1) (N := some 49) (v := ?_) (a' := ?_) #[false, true, false, false, false, false, false, false, false, false] rfl rfl (by kernel_rfl) (fun _ _ _ h => h) (Or.inl ⟨by rfl, ?_⟩) ?_ ?_
                rotate_left
                · intro w'
                  go_simp
                  with_reducible rfl
                rotate_left
                · simp only [Act.put, List.setIfInBounds_toArray, List.set_cons_zero, List.set_cons_succ, i64_w, i32_w]
                  rfl
                refine pure_ (i := 3) (N := some 51) (v := ?_) (a' := ?_) #[false, true, false, true, false, false, false, false, false, false] rfl rfl (by kernel_rfl) (fun _ _ _ h => h) (Or.inl ⟨by rfl, ?_⟩) ?_ ?_
                rotate_left
                · intro w'
                  go_simp
                  with_reducible rfl
                rotate_left
                · simp only [Act.put, List.setIfInBounds_toArray, List.set_cons_zero, List.set_cons_succ, i64_w, i32_w]
                  rfl
                refine pure_ (i := 4) (N := some 52) (v := ?_) (a' := ?_) #[false, true, false, true, true, false, false, false, false, false] rfl rfl (by kernel_rfl) (fun _ _ _ h => h) (Or.inl ⟨by rfl, ?_⟩) ?_ ?_
                rotate_left
                · intro w'
                  go_simp
                  with_reducible rfl
                rotate_left
                · simp only [Act.put, List.setIfInBounds_toArray, List.set_cons_zero, List.set_cons_succ, i64_w, i32_w]
                  rfl
                refine pure_ (i := 5) (N := some 53) (v := ?_) (a' := ?_) #[false, true, false, true, true, true, false, false, false, false] rfl rfl (by kernel_rfl) (fun _ _ _ h => h) (Or.inl ⟨by rfl, ?_⟩) ?_ ?_
                rotate_left
                · intro w'
                  go_simp
                  with_reducible rfl
                rotate_left
                · simp only [Act.put, List.setIfInBounds_toArray, List.set_cons_zero, List.set_cons_succ, i64_w, i32_w]
                  rfl
                refine take_ (i := 6) (N := some 54) (v := ?_) (a' := ?_) #[false, true, false, true, true, true, true, false, false, false] rfl rfl (by kernel_rfl) (fun _ _ _ h => h) (Or.inl ⟨by rfl, ?_⟩) hHeld ?_ ?_
                rotate_left
                · rintro w' s0
                  go_simp
                  with_reducible rfl
                rotate_left
                · simp only [Act.put, List.setIfInBounds_toArray, List.set_cons_zero, List.set_cons_succ, i64_w, i32_w]
                  rfl
                refine two_ (i := 0) (j := 7) (Ni := some 48) (Nj := some 55) #[true, true, false, true, true, true, true, false, false, false] #[false, true, false, true, true, true, true, true, false, false] rfl rfl rfl rfl (by kernel_rfl) (by decide) (by decide) (fun K hKK => ?_) (fun K hKK => ?_)
                · as_aux_lemma =>
                  refine Kd.R_lit_step Kd.string (w0 := wr) wr.heap.size 9 (by rfl) (N := 48) rfl (xs := ([] : List ByteArray)) (inner := []) (ok := fun _ => True) (okp := fun _ => True) ?hr ?hp (fun _ hk => hk) trivial HBv0.out HBv0.out.size (by simp) ?_
                  case hr => first | (go_simp; done) | (go_simp; rfl)
                  case hp => exact Reps.none _ _
                  intro x0 vA ho hb hg hat
                  have HBvA := Aside0.mk hb
                  have HOvA := Aside0.mk ho
                  obtain ⟨A0_, c0_, e0_⟩ := Kd.R_slice ho
                  subst e0_
                  clear ho hb hg hat
                  refine hKK.out _ _ (pw_cell_below HBvA.out HX.out) (fun hHeld => ?_)
                  clear hKK K
                  refine norm_ (a' := ?_) ?_ ?_
                  rotate_left
                  · show Act.put _ (some 48) _ = _
                    simp only [Act.put, List.setIfInBounds_toArray, List.set_cons_zero, List.set_cons_succ, i64_w, i32_w]
                    rfl
                  refine two_ (i := 2) (j := 7) (Ni := some 50) (Nj := some 55) #[true, true, true, true, true, true, true, false, false, false] #[true, true, false, true, true, true, true, true, false, false] rfl rfl rfl rfl (by kernel_rfl) (by decide) (by decide) (fun K hKK => ?_) (fun K hKK => ?_)
                  · as_aux_lemma =>
                    refine Kd.R_append_rows_step Kd.string (w0 := wr) wr.heap.size (by rfl) (.tmp 48) (.tmp 49) 31 9 (.string ⟨#[]⟩) 16 rfl Tryd.underlying31 info9 rfl (by decide) (by omega) (.slice A0_ ([] : List ByteArray).length c0_) [] L A L.length c (fun _ => True) (fun _ => False) rfl rfl ?aO ?aR (fun _ _ h => h) (fun _ h => h.elim) ?aF ?aB ?aS ?aL ?_
                    case aR => exact Kd.C_below HL.out HBvA.out
                    case aO => exact HOvA.out
                    case aF => exact fun _ _ => trivial
                    case aB => exact HBvA.out
                    case aS => exact HBvA.out.size
                    case aL => have := HZL.out; simp; omega
                    intro x2 vA1 ho hb hg hat
                    have HBvA1 := Aside0.mk hb
                    have HOvA1 := Aside0.mk (show Kd.R Kd.string 9 vA1 wr.heap.size (fun _ => True) x2 L from by simpa using ho)
                    have HO2 := HOvA1
                    obtain ⟨A2_, c2_, e2_⟩ := Kd.R_slice HOvA1.out
                    subst e2_
                    clear ho hb hg hat
                    refine hKK.out _ _ (pw_cell_below HBvA1.out HX.out) (fun hHeld => ?_)
                    clear hKK K
                    refine norm_ (a' := ?_) ?_ ?_
                    rotate_left
                    · show Act.put _ (some 50) _ = _
                      simp only [Act.put, List.setIfInBounds_toArray, List.set_cons_zero, List.set_cons_succ, i64_w, i32_w]
                      rfl
                    refine one_ (i := 7) (N := some 55) #[true, true, true, true, true, true, true, true, false, false] rfl rfl (by kernel_rfl) (by decide) (fun K hKK => ?_)
                    refine value_ (w1 := vA1.alloc (.cells [Value.string p].toArray 9)) (v := .slice (some ⟨vA1.heap.size, 0, none⟩) 1 1) (by rfl) rfl ?_ ?_
                    · go_simp
                      try rfl
                    have ha : Below vA1.heap.size vA1 (vA1.alloc (.cells [Value.string p].toArray 9)) := below_alloc (Below.refl _ _) _
                    have HBvA2 := Aside0.mk (HBvA1.out.trans (ha.mono HBvA1.out.size))
                    have HOvA2 := Aside0.mk (Kd.R_below HOvA1.out ha)
                    have HKvA2 := Aside0.mk (show (vA1.alloc (.cells [Value.string p].toArray 9)).heap[vA1.heap.size]? = some (.cells [Value.string p].toArray 9 (0, 0)) ∧ (Value.slice A2_ L.length c2_).ownBlock ≠ some vA1.heap.size from ⟨blk_new vA1 _, fun e => by have := Kd.R_lt HOvA1.out _ e; omega⟩)
                    clear ha
                    refine hKK.out _ _ (pw_cell_below HBvA2.out HX.out) (fun hHeld => ?_)
                    clear hKK K
                    obtain ⟨kk, hkk⟩ : ∃ kk, kk = vA1.heap.size := ⟨_, rfl⟩
                    rw [← hkk] at HKvA2 ⊢
                    clear hkk
                    generalize (vA1.alloc (.cells [Value.string p].toArray 9)) = vA2 at HBvA2 HKvA2 hHeld HOvA2 ⊢
                    refine norm_ (a' := ?_) ?_ ?_
                    rotate_left
                    · show Act.put _ (some 55) _ = _
                      simp only [Act.put, List.setIfInBounds_toArray, List.set_cons_zero, List.set_cons_succ, i64_w, i32_w]
                      rfl
                    refine one_ (i := 8) (N := some 56) #[true, true, true, true, true, true, true, true, true, false] rfl rfl (by kernel_rfl) (by decide) (fun K hKK => ?_)
                    refine Kd.R_append_rows_step Kd.string (w0 := wr) wr.heap.size (by rfl) (.tmp 50) (.tmp 55) 31 9 (.string ⟨#[]⟩) 16 rfl Tryd.underlying31 info9 rfl (by decide) (by omega) (.slice A2_ L.length c2_) L [p] (some ⟨kk, 0, none⟩) 1 1 (fun _ => True) (fun _ => False) rfl rfl ?aO ?aR (fun _ _ h => h) (fun _ h => h.elim) ?aF ?aB ?aS ?aL ?_
                    case aR => exact rubricatorref12_Resolve.one_row HKvA2.out.1
                    case aO => exact HOvA2.out
                    case aF => exact fun _ _ => trivial
                    case aB => exact HBvA2.out
                    case aS => exact HBvA2.out.size
                    case aL => have := HZL.out; omega
                    intro x8 vA3 ho hb hg hat
                    have HBvA3 := Aside0.mk hb
                    obtain ⟨A8_, c8_, e8_, hle8, hC8⟩ := Kd.R_reads ho
                    subst e8_
                    have HC8 := Aside0.mk (And.intro hC8 hle8)
                    clear ho hb hg hat hC8 hle8
                    refine hKK.out _ _ (pw_cell_below HBvA3.out HX.out) (fun hHeld => ?_)
                    clear hKK K
                    refine norm_ (a' := ?_) ?_ ?_
                    rotate_left
                    · show Act.put _ (some 56) _ = _
                      simp only [Act.put, List.setIfInBounds_toArray, List.set_cons_zero, List.set_cons_succ, i64_w, i32_w]
                      rfl
                    refine pure_ (i := 9) (N := some 6) (v := ?_) (a' := ?_) #[true, true, true, true, true, true, true, true, true, true] rfl rfl (by kernel_rfl) (fun _ _ _ h => h) (Or.inl ⟨by rfl, ?_⟩) ?_ ?_
                    rotate_left
                    · intro w'
                      go_simp
                      with_reducible rfl
                    rotate_left
                    · simp only [Act.put, List.setIfInBounds_toArray, List.set_cons_zero, List.set_cons_succ, i64_w, i32_w]
                      rfl
                    refine done_ (by kernel_rfl) ?_
                    go_wp2
                    go_roundw
                    case rel =>
                      have := HI.out
                      exact ⟨j + 1, _, L ++ [p], A8_, c8_, by simp, rfl, by rw [t5]; omega, by omega, ⟨by rw [← HNX.out]⟩, ⟨by rw [List.length_append, List.length_singleton]; have := HLl.out; omega⟩, ⟨HC8.out.1, HC8.out.2⟩, ⟨HBr.out.trans (HBvA3.out.mono HBr.out.size)⟩⟩
                    case measure =>
                      have := HI.out
                      simp only [intOf, t5]
                      omega
                  · as_aux_lemma =>
                    refine value_ (w1 := vA.alloc (.cells [Value.string p].toArray 9)) (v := .slice (some ⟨vA.heap.size, 0, none⟩) 1 1) (by rfl) rfl ?_ ?_
                    · go_simp
                      try rfl
                    have ha : Below vA.heap.size vA (vA.alloc (.cells [Value.string p].toArray 9)) := below_alloc (Below.refl _ _) _
                    have HBvA1 := Aside0.mk (HBvA.out.trans (ha.mono HBvA.out.size))
                    have HOvA1 := Aside0.mk (Kd.R_below HOvA.out ha)
                    have HKvA1 := Aside0.mk (show (vA.alloc (.cells [Value.string p].toArray 9)).heap[vA.heap.size]? = some (.cells [Value.string p].toArray 9 (0, 0)) ∧ (Value.slice A0_ ([] : List ByteArray).length c0_).ownBlock ≠ some vA.heap.size from ⟨blk_new vA _, fun e => by have := Kd.R_lt HOvA.out _ e; omega⟩)
                    clear ha
                    refine hKK.out _ _ (pw_cell_below HBvA1.out HX.out) (fun hHeld => ?_)
                    clear hKK K
                    obtain ⟨kk, hkk⟩ : ∃ kk, kk = vA.heap.size := ⟨_, rfl⟩
                    rw [← hkk] at HKvA1 ⊢
                    clear hkk
                    generalize (vA.alloc (.cells [Value.string p].toArray 9)) = vA1 at HBvA1 HKvA1 hHeld HOvA1 ⊢
                    refine norm_ (a' := ?_) ?_ ?_
                    rotate_left
                    · show Act.put _ (some 55) _ = _
                      simp only [Act.put, List.setIfInBounds_toArray, List.set_cons_zero, List.set_cons_succ, i64_w, i32_w]
                      rfl
                    refine one_ (i := 2) (N := some 50) #[true, true, true, true, true, true, true, true, false, false] rfl rfl (by kernel_rfl) (by decide) (fun K hKK => ?_)
                    refine Kd.R_append_rows_step Kd.string (w0 := wr) wr.heap.size (by rfl) (.tmp 48) (.tmp 49) 31 9 (.string ⟨#[]⟩) 16 rfl Tryd.underlying31 info9 rfl (by decide) (by omega) (.slice A0_ ([] : List ByteArray).length c0_) [] L A L.length c (fun _ => True) (fun _ => False) rfl rfl ?aO ?aR (fun _ _ h => h) (fun _ h => h.elim) ?aF ?aB ?aS ?aL ?_
                    case aR => exact Kd.C_below HL.out HBvA1.out
                    case aO => exact HOvA1.out
                    case aF => exact fun _ _ => trivial
                    case aB => exact HBvA1.out
                    case aS => exact HBvA1.out.size
                    case aL => have := HZL.out; simp; omega
                    intro x2 vA2 ho hb hg hat
                    have HBvA2 := Aside0.mk hb
                    have HOvA2 := Aside0.mk (show Kd.R Kd.string 9 vA2 wr.heap.size (fun _ => True) x2 L from by simpa using ho)
                    have HKvA2 := Aside0.mk (show vA2.heap[kk]? = some (.cells [Value.string p].toArray 9 (0, 0)) ∧ x2.ownBlock ≠ some kk from ⟨(hg.block kk (blk_lt HKvA1.out.1) (fun e => HKvA1.out.2 e.symm)).trans HKvA1.out.1, fun e => hat.elim (fun e2 => HKvA1.out.2 (e2 ▸ e)) (fun ⟨b, e2, hb2⟩ => by rw [e2] at e; obtain rfl := Option.some.inj e; have := blk_lt HKvA1.out.1; omega)⟩)
                    have HO2 := HOvA2
                    obtain ⟨A2_, c2_, e2_⟩ := Kd.R_slice HOvA2.out
                    subst e2_
                    clear ho hb hg hat
                    refine hKK.out _ _ (pw_cell_below HBvA2.out HX.out) (fun hHeld => ?_)
                    clear hKK K
                    refine norm_ (a' := ?_) ?_ ?_
                    rotate_left
                    · show Act.put _ (some 50) _ = _
                      simp only [Act.put, List.setIfInBounds_toArray, List.set_cons_zero, List.set_cons_succ, i64_w, i32_w]
                      rfl
                    refine one_ (i := 8) (N := some 56) #[true, true, true, true, true, true, true, true, true, false] rfl rfl (by kernel_rfl) (by decide) (fun K hKK => ?_)
                    refine Kd.R_append_rows_step Kd.string (w0 := wr) wr.heap.size (by rfl) (.tmp 50) (.tmp 55) 31 9 (.string ⟨#[]⟩) 16 rfl Tryd.underlying31 info9 rfl (by decide) (by omega) (.slice A2_ L.length c2_) L [p] (some ⟨kk, 0, none⟩) 1 1 (fun _ => True) (fun _ => False) rfl rfl ?aO ?aR (fun _ _ h => h) (fun _ h => h.elim) ?aF ?aB ?aS ?aL ?_
                    case aR => exact rubricatorref12_Resolve.one_row HKvA2.out.1
                    case aO => exact HOvA2.out
                    case aF => exact fun _ _ => trivial
                    case aB => exact HBvA2.out
                    case aS => exact HBvA2.out.size
                    case aL => have := HZL.out; omega
                    intro x8 vA3 ho hb hg hat
                    have HBvA3 := Aside0.mk hb
                    obtain ⟨A8_, c8_, e8_, hle8, hC8⟩ := Kd.R_reads ho
                    subst e8_
                    have HC8 := Aside0.mk (And.intro hC8 hle8)
                    clear ho hb hg hat hC8 hle8
                    refine hKK.out _ _ (pw_cell_below HBvA3.out HX.out) (fun hHeld => ?_)
                    clear hKK K
                    refine norm_ (a' := ?_) ?_ ?_
                    rotate_left
                    · show Act.put _ (some 56) _ = _
                      simp only [Act.put, List.setIfInBounds_toArray, List.set_cons_zero, List.set_cons_succ, i64_w, i32_w]
                      rfl
                    refine pure_ (i := 9) (N := some 6) (v := ?_) (a' := ?_) #[true, true, true, true, true, true, true, true, true, true] rfl rfl (by kernel_rfl) (fun _ _ _ h => h) (Or.inl ⟨by rfl, ?_⟩) ?_ ?_
                    rotate_left
                    · intro w'
                      go_simp
                      with_reducible rfl
                    rotate_left
                    · simp only [Act.put, List.setIfInBounds_toArray, List.set_cons_zero, List.set_cons_succ, i64_w, i32_w]
                      rfl
                    refine done_ (by kernel_rfl) ?_
                    go_wp2
                    go_roundw
                    case rel =>
                      have := HI.out
                      exact ⟨j + 1, _, L ++ [p], A8_, c8_, by simp, rfl, by rw [t5]; omega, by omega, ⟨by rw [← HNX.out]⟩, ⟨by rw [List.length_append, List.length_singleton]; have := HLl.out; omega⟩, ⟨HC8.out.1, HC8.out.2⟩, ⟨HBr.out.trans (HBvA3.out.mono HBr.out.size)⟩⟩
                    case measure =>
                      have := HI.out
                      simp only [intOf, t5]
                      omega
                · as_aux_lemma =>
                  refine value_ (w1 := v0.alloc (.cells [Value.string p].toArray 9)) (v := .slice (some ⟨v0.heap.size, 0, none⟩) 1 1) (by rfl) rfl ?_ ?_
                  · go_simp
                    try rfl
                  have ha : Below v0.heap.size v0 (v0.alloc (.cells [Value.string p].toArray 9)) := below_alloc (Below.refl _ _) _
                  have HBvB := Aside0.mk (HBv0.out.trans (ha.mono HBv0.out.size))
                  have HKvB := Aside0.mk (show (v0.alloc (.cells [Value.string p].toArray 9)).heap[v0.heap.size]? = some (.cells [Value.string p].toArray 9 (0, 0)) from blk_new v0 _)
                  clear ha
                  refine hKK.out _ _ (pw_cell_below HBvB.out HX.out) (fun hHeld => ?_)
                  clear hKK K
                  obtain ⟨kk, hkk⟩ : ∃ kk, kk = v0.heap.size := ⟨_, rfl⟩
                  rw [← hkk] at HKvB ⊢
                  clear hkk
                  generalize (v0.alloc (.cells [Value.string p].toArray 9)) = vB at HBvB HKvB hHeld ⊢
                  refine norm_ (a' := ?_) ?_ ?_
                  rotate_left
                  · show Act.put _ (some 55) _ = _
                    simp only [Act.put, List.setIfInBounds_toArray, List.set_cons_zero, List.set_cons_succ, i64_w, i32_w]
                    rfl
                  refine one_ (i := 0) (N := some 48) #[true, true, false, true, true, true, true, true, false, false] rfl rfl (by kernel_rfl) (by decide) (fun K hKK => ?_)
                  refine Kd.R_lit_step Kd.string (w0 := wr) wr.heap.size 9 (by rfl) (N := 48) rfl (xs := ([] : List ByteArray)) (inner := []) (ok := fun _ => True) (okp := fun _ => True) ?hr ?hp (fun _ hk => hk) trivial HBvB.out HBvB.out.size (by simp) ?_
                  case hr => first | (go_simp; done) | (go_simp; rfl)
                  case hp => exact Reps.none _ _
                  intro x0 vB1 ho hb hg hat
                  have HBvB1 := Aside0.mk hb
                  have HOvB1 := Aside0.mk ho
                  have HKvB1 := Aside0.mk (show vB1.heap[kk]? = some (.cells [Value.string p].toArray 9 (0, 0)) ∧ x0.ownBlock ≠ some kk from ⟨(hg.block kk (blk_lt HKvB.out) (by simp)).trans HKvB.out, fun e => by obtain ⟨b, hb1, hb2⟩ := hat; rw [hb1] at e; obtain rfl := Option.some.inj e; have := blk_lt HKvB.out; omega⟩)
                  obtain ⟨A0_, c0_, e0_⟩ := Kd.R_slice ho
                  subst e0_
                  clear ho hb hg hat
                  refine hKK.out _ _ (pw_cell_below HBvB1.out HX.out) (fun hHeld => ?_)
                  clear hKK K
                  refine norm_ (a' := ?_) ?_ ?_
                  rotate_left
                  · show Act.put _ (some 48) _ = _
                    simp only [Act.put, List.setIfInBounds_toArray, List.set_cons_zero, List.set_cons_succ, i64_w, i32_w]
                    rfl
                  refine one_ (i := 2) (N := some 50) #[true, true, true, true, true, true, true, true, false, false] rfl rfl (by kernel_rfl) (by decide) (fun K hKK => ?_)
                  refine Kd.R_append_rows_step Kd.string (w0 := wr) wr.heap.size (by rfl) (.tmp 48) (.tmp 49) 31 9 (.string ⟨#[]⟩) 16 rfl Tryd.underlying31 info9 rfl (by decide) (by omega) (.slice A0_ ([] : List ByteArray).length c0_) [] L A L.length c (fun _ => True) (fun _ => False) rfl rfl ?aO ?aR (fun _ _ h => h) (fun _ h => h.elim) ?aF ?aB ?aS ?aL ?_
                  case aR => exact Kd.C_below HL.out HBvB1.out
                  case aO => exact HOvB1.out
                  case aF => exact fun _ _ => trivial
                  case aB => exact HBvB1.out
                  case aS => exact HBvB1.out.size
                  case aL => have := HZL.out; simp; omega
                  intro x2 vB2 ho hb hg hat
                  have HBvB2 := Aside0.mk hb
                  have HOvB2 := Aside0.mk (show Kd.R Kd.string 9 vB2 wr.heap.size (fun _ => True) x2 L from by simpa using ho)
                  have HKvB2 := Aside0.mk (show vB2.heap[kk]? = some (.cells [Value.string p].toArray 9 (0, 0)) ∧ x2.ownBlock ≠ some kk from ⟨(hg.block kk (blk_lt HKvB1.out.1) (fun e => HKvB1.out.2 e.symm)).trans HKvB1.out.1, fun e => hat.elim (fun e2 => HKvB1.out.2 (e2 ▸ e)) (fun ⟨b, e2, hb2⟩ => by rw [e2] at e; obtain rfl := Option.some.inj e; have := blk_lt HKvB1.out.1; omega)⟩)
                  have HO2 := HOvB2
                  obtain ⟨A2_, c2_, e2_⟩ := Kd.R_slice HOvB2.out
                  subst e2_
                  clear ho hb hg hat
                  refine hKK.out _ _ (pw_cell_below HBvB2.out HX.out) (fun hHeld => ?_)
                  clear hKK K
                  refine norm_ (a' := ?_) ?_ ?_
                  rotate_left
                  · show Act.put _ (some 50) _ = _
                    simp only [Act.put, List.setIfInBounds_toArray, List.set_cons_zero, List.set_cons_succ, i64_w, i32_w]
                    rfl
                  refine one_ (i := 8) (N := some 56) #[true, true, true, true, true, true, true, true, true, false] rfl rfl (by kernel_rfl) (by decide) (fun K hKK => ?_)
                  refine Kd.R_append_rows_step Kd.string (w0 := wr) wr.heap.size (by rfl) (.tmp 50) (.tmp 55) 31 9 (.string ⟨#[]⟩) 16 rfl Tryd.underlying31 info9 rfl (by decide) (by omega) (.slice A2_ L.length c2_) L [p] (some ⟨kk, 0, none⟩) 1 1 (fun _ => True) (fun _ => False) rfl rfl ?aO ?aR (fun _ _ h => h) (fun _ h => h.elim) ?aF ?aB ?aS ?aL ?_
                  case aR => exact rubricatorref12_Resolve.one_row HKvB2.out.1
                  case aO => exact HOvB2.out
                  case aF => exact fun _ _ => trivial
                  case aB => exact HBvB2.out
                  case aS => exact HBvB2.out.size
                  case aL => have := HZL.out; omega
                  intro x8 vB3 ho hb hg hat
                  have HBvB3 := Aside0.mk hb
                  obtain ⟨A8_, c8_, e8_, hle8, hC8⟩ := Kd.R_reads ho
                  subst e8_
                  have HC8 := Aside0.mk (And.intro hC8 hle8)
                  clear ho hb hg hat hC8 hle8
                  refine hKK.out _ _ (pw_cell_below HBvB3.out HX.out) (fun hHeld => ?_)
                  clear hKK K
                  refine norm_ (a' := ?_) ?_ ?_
                  rotate_left
                  · show Act.put _ (some 56) _ = _
                    simp only [Act.put, List.setIfInBounds_toArray, List.set_cons_zero, List.set_cons_succ, i64_w, i32_w]
                    rfl
                  refine pure_ (i := 9) (N := some 6) (v := ?_) (a' := ?_) #[true, true, true, true, true, true, true, true, true, true] rfl rfl (by kernel_rfl) (fun _ _ _ h => h) (Or.inl ⟨by rfl, ?_⟩) ?_ ?_
                  rotate_left
                  · intro w'
                    go_simp
                    with_reducible rfl
                  rotate_left
                  · simp only [Act.put, List.setIfInBounds_toArray, List.set_cons_zero, List.set_cons_succ, i64_w, i32_w]
                    rfl
                  refine done_ (by kernel_rfl) ?_
                  go_wp2
                  go_roundw
                  case rel =>
                    have := HI.out
                    exact ⟨j + 1, _, L ++ [p], A8_, c8_, by simp, rfl, by rw [t5]; omega, by omega, ⟨by rw [← HNX.out]⟩, ⟨by rw [List.length_append, List.length_singleton]; have := HLl.out; omega⟩, ⟨HC8.out.1, HC8.out.2⟩, ⟨HBr.out.trans (HBvB3.out.mono HBr.out.size)⟩⟩
                  case measure =>
                    have := HI.out
                    simp only [intOf, t5]
                    omega
          · have dlt : decide (jj < (ps.length : Int)) = false := decide_eq_false hlt
            obtain rfl : j = ps.length := by omega
            have hst := HST.out
            rw [List.drop_length, rubricatorref12_Resolve.steps] at hst
            have he := HE.out
            rw [← hst] at he
            unfold rubricatorref12_Resolve.end_ at he
            simp only at he
            by_cases ho : (rubricatorref12_Resolve.out L (⟨#[]⟩ : ByteArray)).size ≤ 1000000
            case neg =>
              rw [if_neg ho] at he
              exact absurd he (by simp)
            rw [if_pos ho] at he
            obtain ⟨b2, hb2, he⟩ := Option.bind_eq_some_iff.mp he
            have HO := Aside0.mk ho
            have HB2 := Aside0.mk hb2
            have HR := Aside0.mk (Option.some.inj he)
            have HZL := Aside0.mk (show L.length ≤ 2000000 by have := HLl.out; have := HLN.out.1; omega)
            clear hlt hjj hjl hst he ho hb2 HE HST
            go_wp2
            go_loopw [10, 11] (fun v10 v11 wo => ∃ (i : Nat) (ii : Int) (o : ByteArray), v10 = .string o ∧ v11 = .int .i64 ii ∧ ii = (i : Int) ∧ i ≤ L.length ∧ Aside0 (rubricatorref12_Resolve.out (L.drop i) o = rubricatorref12_Resolve.out L (⟨#[]⟩ : ByteArray)) ∧ Aside0 (Below wr.heap.size wr wo)) (fun _ v11 _ => L.length - (intOf v11).toNat)
            case atStart => exact ⟨0, 0, (⟨#[]⟩ : ByteArray), rfl, rfl, rfl, Nat.zero_le _, ⟨rfl⟩, ⟨Below.refl _ _⟩⟩
            case round =>
              obtain ⟨i, ii, o, rfl, rfl, hii, hil, HQ, HBo⟩ := hrel
              by_cases hl2 : ii < (L.length : Int)
              · have dl2 : decide (ii < (L.length : Int)) = true := decide_eq_true hl2
                have pi : 0 ≤ ii := by omega
                have di0 : decide (0 ≤ ii) = true := decide_eq_true pi
                have hin : i < L.length := by omega
                obtain ⟨al, eal, hx⟩ := ReadsOf.at_ (Kd.reads_of_C (enc := Value.string) (d := ByteArray.empty) (h1 := fun _ => rfl) (Kd.C_below HLr.out.1 HBo.out)) ii pi hl2
                obtain ⟨p, hp⟩ : ∃ p, L[i] = p := ⟨_, rfl⟩
                have hpe : rdOf ByteArray.empty L ii = p := by
                  unfold rdOf
                  rw [show ii.toNat = i by omega, List.getD_eq_getElem?_getD, List.getElem?_eq_getElem hin, ← hp]
                  rfl
                rw [hpe] at hx
                subst eal
                have hq := HQ.out
                rw [List.drop_eq_getElem_cons hin, hp, rubricatorref12_Resolve.out] at hq
                have hle := rubricatorref12_Resolve.out_le (L.drop (i + 1)) ((o ++ (⟨#[47]⟩ : ByteArray)) ++ p)
                rw [hq, ByteArray.size_append, ByteArray.size_append] at hle
                have hle2 : o.size + 1 + p.size ≤ 1000000 := Nat.le_trans hle HO.out
                have n1 : (9223372036854775807 < o.size + 1) = False := eq_false (by omega)
                have n2 : (9223372036854775807 < o.size + 1 + p.size) = False := eq_false (by omega)
                have l1 : (o.size + 1 ≤ 9223372036854775807) = True := eq_true (by omega)
                have l2 : (o.size + 1 + p.size ≤ 9223372036854775807) = True := eq_true (by omega)
                have t6 : wrap64 (ii + 1) = ii + 1 := by unfold wrap64; have := HZL.out; omega
                have HNQ := Aside0.mk hq
                have HI2 := Aside0.mk (show ii = (i : Int) ∧ i < L.length from ⟨hii, hin⟩)
                have q2 := eq_true hl2
                clear hl2 hii hil hin hp hpe hq hle hle2
                replace pi := eq_true pi
                go_wp2
                go_roundw
                case rel =>
                  have := HI2.out
                  exact ⟨i + 1, _, _, rfl, rfl, by rw [t6]; omega, by omega, HNQ, HBo⟩
                case measure =>
                  have := HI2.out
                  simp only [intOf, t6]
                  omega
              · have dl2 : decide (ii < (L.length : Int)) = false := decide_eq_false hl2
                obtain rfl : i = L.length := by omega
                have hq := HQ.out
                rw [List.drop_length, rubricatorref12_Resolve.out] at hq
                subst hq
                clear hl2 hii hil
                have HBA := Aside0.mk (HB4.out.trans ((HBr.out.trans (HBo.out.mono HBr.out.size)).mono HB4.out.size))
                cases b2
                all_goals
                  have hr := HR.out
                  simp only [Bool.false_eq_true, if_false, if_true, Prod.mk.injEq] at hr
                  obtain ⟨rfl, rfl⟩ := hr
                  go_wp2_with ((with_reducible refine gate_callee (f := 12) rfl ?_); refine goesL_ (some 83) rfl rfl Tryd.func12 (by kernel_rfl) rfl #[.string (rubricatorref12_Resolve.out L (⟨#[]⟩ : ByteArray))] rfl (by (try simp only [List.map_toArray, List.map_cons, List.map_nil]); first | done | rfl) ?_; refine (rubricatorref12_Is.calls k _ _ _ HB2.out).mono ?_; rintro e wz ⟨rfl, hd⟩; refine ⟨_, rfl, ?_⟩; have HBZ := Aside0.mk (HBA.out.trans (hd.mono HBA.out.size)); clear hd)
                  go_ret2
                  exact ⟨rfl, HBZ.out⟩

/-! ### parts_Rels: function 13 -/
def parts_Rels.f (k : Nat) (a0 : ByteArray) : Option (ByteArray) := (parts_split.f k a0).bind fun bt141 => (if bt141.1.size + 7 ≤ 9223372036854775807 then (if (bt141.1 ++ (⟨#[47, 95, 114, 101, 108, 115, 47]⟩ : ByteArray)).size + bt141.2.size ≤ 9223372036854775807 then (if ((bt141.1 ++ (⟨#[47, 95, 114, 101, 108, 115, 47]⟩ : ByteArray)) ++ bt141.2).size + 5 ≤ 9223372036854775807 then (some (((bt141.1 ++ (⟨#[47, 95, 114, 101, 108, 115, 47]⟩ : ByteArray)) ++ bt141.2) ++ (⟨#[46, 114, 101, 108, 115]⟩ : ByteArray))) else (none)) else (none)) else (none))
theorem parts_Rels.mono : ∀ a0 k, LeO (parts_Rels.f k a0) (parts_Rels.f (k + 1) a0) := by
  intro a0 k
  unfold parts_Rels.f
  repeat' first
      | (with_reducible exact parts_split.mono _ _)
      | (with_reducible exact LeO.refl _)
      | (with_reducible exact LeO.none _)
      | (with_reducible refine LeO.ite ?_ ?_)
      | (with_reducible refine LeO.bind ?_ (fun _ => ?_))
      | exact parts_split.mono _ _
      | exact LeO.none _
      | refine LeO.ite ?_ ?_
      | refine LeO.bind ?_ (fun _ => ?_)
set_option maxHeartbeats 8000000 in
set_option maxRecDepth 100000 in
theorem parts_Rels.calls (k : Nat) (a0 : ByteArray) (r : ByteArray) (w : World) (h : parts_Rels.f k a0 = some r) :
    Calls Tryd.prog 13 #[.string a0] w fun e w' => e = .returned (.string r) ∧ Below w.heap.size w w' := by
  have HB := Aside0.mk (Below.refl w.heap.size w)
  have H : ((parts_split.f k a0).bind fun bt141 => (if bt141.1.size + 7 ≤ 9223372036854775807 then (if (bt141.1 ++ (⟨#[47, 95, 114, 101, 108, 115, 47]⟩ : ByteArray)).size + bt141.2.size ≤ 9223372036854775807 then (if ((bt141.1 ++ (⟨#[47, 95, 114, 101, 108, 115, 47]⟩ : ByteArray)) ++ bt141.2).size + 5 ≤ 9223372036854775807 then (some (((bt141.1 ++ (⟨#[47, 95, 114, 101, 108, 115, 47]⟩ : ByteArray)) ++ bt141.2) ++ (⟨#[46, 114, 101, 108, 115]⟩ : ByteArray))) else (none)) else (none)) else (none))) = some r := h
  clear h
  replace H := Option.bind_eq_some_iff.mp H
  obtain ⟨⟨t141, t142⟩, A20, H⟩ := H
  replace H : (if t141.size + 7 ≤ 9223372036854775807 then (if (t141 ++ (⟨#[47, 95, 114, 101, 108, 115, 47]⟩ : ByteArray)).size + t142.size ≤ 9223372036854775807 then (if ((t141 ++ (⟨#[47, 95, 114, 101, 108, 115, 47]⟩ : ByteArray)) ++ t142).size + 5 ≤ 9223372036854775807 then (some (((t141 ++ (⟨#[47, 95, 114, 101, 108, 115, 47]⟩ : ByteArray)) ++ t142) ++ (⟨#[46, 114, 101, 108, 115]⟩ : ByteArray))) else (none)) else (none)) else (none)) = some r := H
  have A2 := Aside0.mk A20
  clear A20
  by_cases c3 : t141.size + 7 ≤ 9223372036854775807
  · rw [if_pos c3] at H
    have c3b0 := eq_true c3
    have c3b1 : decide (t141.size + 7 ≤ 9223372036854775807) = true := decide_eq_true c3
    try have c3b2 : (9223372036854775807 < t141.size + 7) = False := eq_false (Nat.not_lt.2 c3)
    by_cases c4 : (t141 ++ (⟨#[47, 95, 114, 101, 108, 115, 47]⟩ : ByteArray)).size + t142.size ≤ 9223372036854775807
    · rw [if_pos c4] at H
      have c4b0 := eq_true c4
      have c4b1 : decide ((t141 ++ (⟨#[47, 95, 114, 101, 108, 115, 47]⟩ : ByteArray)).size + t142.size ≤ 9223372036854775807) = true := decide_eq_true c4
      try have c4b2 : (9223372036854775807 < (t141 ++ (⟨#[47, 95, 114, 101, 108, 115, 47]⟩ : ByteArray)).size + t142.size) = False := eq_false (Nat.not_lt.2 c4)
      have c4b3 := Nat.not_lt.2 c4
      try simp only [ByteArray.size_append, show (⟨#[47, 95, 114, 101, 108, 115, 47]⟩ : ByteArray).size = 7 from rfl] at c4b3
      replace c4b3 := eq_false c4b3
      by_cases c5 : ((t141 ++ (⟨#[47, 95, 114, 101, 108, 115, 47]⟩ : ByteArray)) ++ t142).size + 5 ≤ 9223372036854775807
      · rw [if_pos c5] at H
        have c5b0 := eq_true c5
        have c5b1 : decide (((t141 ++ (⟨#[47, 95, 114, 101, 108, 115, 47]⟩ : ByteArray)) ++ t142).size + 5 ≤ 9223372036854775807) = true := decide_eq_true c5
        try have c5b2 : (9223372036854775807 < ((t141 ++ (⟨#[47, 95, 114, 101, 108, 115, 47]⟩ : ByteArray)) ++ t142).size + 5) = False := eq_false (Nat.not_lt.2 c5)
        have c5b3 := Nat.not_lt.2 c5
        try simp only [ByteArray.size_append, show (⟨#[47, 95, 114, 101, 108, 115, 47]⟩ : ByteArray).size = 7 from rfl] at c5b3
        replace c5b3 := eq_false c5b3
        obtain rfl := Option.some.inj H
        go_enter Tryd.func13, Tryd.ntmps13
        go_wp2_with (first | ((with_reducible refine gate_callee (f := 18) rfl ?_); refine goesL_ (some 7) rfl rfl Tryd.func18 (by kernel_rfl) rfl #[.string a0] rfl (by (try simp only [List.map_toArray, List.map_cons, List.map_nil]); first | done | rfl | (simp only [List.length_drop, List.length_take]; rfl)) ?_; (with_reducible refine (parts_split.calls k a0 t141 t142 _ A2.out).mono ?_); rintro e w6 ⟨rfl, hb⟩; refine ⟨_, rfl, ?_⟩; have n0_ := Aside0.mk (below_step (by repeat (first | (with_reducible first | exact HB.out | apply below_alloc | apply pw_below_drewN | apply below_drew1) | exact HB.out)) hb); clear HB; have HB := n0_; clear n0_; (try clear hb); (try clear hb2); (try clear hk); (try clear hi)))
        go_ret
        exact ⟨by first | rfl | (simp [errW_none, errW_some] <;> rfl) | (simp [*, errW_none, errW_some] <;> rfl), by repeat (first | (with_reducible first | exact HB.out | apply below_alloc | apply pw_below_drewN | apply below_drew1) | exact HB.out)⟩
      · rw [if_neg c5] at H
        exact absurd H (by simp)
    · rw [if_neg c4] at H
      exact absurd H (by simp)
  · rw [if_neg c3] at H
    exact absurd H (by simp)

/-! ### rubricatorlaw12_known: function 11 -/
def rubricatorlaw12_known.f (k : Nat)  : Option (Bool) := (parts_Resolve.f k (⟨#[47, 119, 111, 114, 100, 47, 100, 111, 99, 117, 109, 101, 110, 116, 46, 120, 109, 108]⟩ : ByteArray) (⟨#[46, 46, 47, 97, 47, 46, 47, 98, 46, 120, 109, 108]⟩ : ByteArray)).bind fun bt143 => (if bt143.2 = true then (if bt143.1.toList = ([47, 97, 47, 98, 46, 120, 109, 108] : List UInt8) then ((parts_Rels.f k (⟨#[47, 119, 111, 114, 100, 47, 100, 111, 99, 117, 109, 101, 110, 116, 46, 120, 109, 108]⟩ : ByteArray)).bind fun t145 => (if t145.toList = ([47, 119, 111, 114, 100, 47, 95, 114, 101, 108, 115, 47, 100, 111, 99, 117, 109, 101, 110, 116, 46, 120, 109, 108, 46, 114, 101, 108, 115] : List UInt8) then ((parts_Rels.f k (⟨#[]⟩ : ByteArray)).bind fun t146 => (some (t146.toList == ([47, 95, 114, 101, 108, 115, 47, 46, 114, 101, 108, 115] : List UInt8)))) else (some false))) else (some false)) else (some false))
theorem rubricatorlaw12_known.mono : ∀ k, LeO (rubricatorlaw12_known.f k ) (rubricatorlaw12_known.f (k + 1) ) := by
  intro  k
  unfold rubricatorlaw12_known.f
  repeat' first
      | (with_reducible exact parts_Rels.mono _ _)
      | (with_reducible exact parts_Resolve.mono _ _ _)
      | (with_reducible exact LeO.refl _)
      | (with_reducible exact LeO.none _)
      | (with_reducible refine LeO.ite ?_ ?_)
      | (with_reducible refine LeO.bind ?_ (fun _ => ?_))
      | exact parts_Rels.mono _ _
      | exact parts_Resolve.mono _ _ _
      | exact LeO.none _
      | refine LeO.ite ?_ ?_
      | refine LeO.bind ?_ (fun _ => ?_)
set_option maxHeartbeats 8000000 in
set_option maxRecDepth 100000 in
theorem rubricatorlaw12_known.calls (k : Nat)  (r : Bool) (w : World) (h : rubricatorlaw12_known.f k  = some r) :
    Calls Tryd.prog 11 #[] w fun e w' => e = .returned (.bool r) ∧ Below w.heap.size w w' := by
  have HB := Aside0.mk (Below.refl w.heap.size w)
  have H : ((parts_Resolve.f k (⟨#[47, 119, 111, 114, 100, 47, 100, 111, 99, 117, 109, 101, 110, 116, 46, 120, 109, 108]⟩ : ByteArray) (⟨#[46, 46, 47, 97, 47, 46, 47, 98, 46, 120, 109, 108]⟩ : ByteArray)).bind fun bt143 => (if bt143.2 = true then (if bt143.1.toList = ([47, 97, 47, 98, 46, 120, 109, 108] : List UInt8) then ((parts_Rels.f k (⟨#[47, 119, 111, 114, 100, 47, 100, 111, 99, 117, 109, 101, 110, 116, 46, 120, 109, 108]⟩ : ByteArray)).bind fun t145 => (if t145.toList = ([47, 119, 111, 114, 100, 47, 95, 114, 101, 108, 115, 47, 100, 111, 99, 117, 109, 101, 110, 116, 46, 120, 109, 108, 46, 114, 101, 108, 115] : List UInt8) then ((parts_Rels.f k (⟨#[]⟩ : ByteArray)).bind fun t146 => (some (t146.toList == ([47, 95, 114, 101, 108, 115, 47, 46, 114, 101, 108, 115] : List UInt8)))) else (some false))) else (some false)) else (some false))) = some r := h
  clear h
  replace H := Option.bind_eq_some_iff.mp H
  obtain ⟨⟨t143, t144⟩, A10, H⟩ := H
  replace H : (if t144 = true then (if t143.toList = ([47, 97, 47, 98, 46, 120, 109, 108] : List UInt8) then ((parts_Rels.f k (⟨#[47, 119, 111, 114, 100, 47, 100, 111, 99, 117, 109, 101, 110, 116, 46, 120, 109, 108]⟩ : ByteArray)).bind fun t145 => (if t145.toList = ([47, 119, 111, 114, 100, 47, 95, 114, 101, 108, 115, 47, 100, 111, 99, 117, 109, 101, 110, 116, 46, 120, 109, 108, 46, 114, 101, 108, 115] : List UInt8) then ((parts_Rels.f k (⟨#[]⟩ : ByteArray)).bind fun t146 => (some (t146.toList == ([47, 95, 114, 101, 108, 115, 47, 46, 114, 101, 108, 115] : List UInt8)))) else (some false))) else (some false)) else (some false)) = some r := H
  have A1 := Aside0.mk A10
  clear A10
  by_cases c2 : t144 = true
  · subst c2
    have H1 : (if t143.toList = ([47, 97, 47, 98, 46, 120, 109, 108] : List UInt8) then ((parts_Rels.f k (⟨#[47, 119, 111, 114, 100, 47, 100, 111, 99, 117, 109, 101, 110, 116, 46, 120, 109, 108]⟩ : ByteArray)).bind fun t145 => (if t145.toList = ([47, 119, 111, 114, 100, 47, 95, 114, 101, 108, 115, 47, 100, 111, 99, 117, 109, 101, 110, 116, 46, 120, 109, 108, 46, 114, 101, 108, 115] : List UInt8) then ((parts_Rels.f k (⟨#[]⟩ : ByteArray)).bind fun t146 => (some (t146.toList == ([47, 95, 114, 101, 108, 115, 47, 46, 114, 101, 108, 115] : List UInt8)))) else (some false))) else (some false)) = some r := by rw [if_pos rfl] at H; exact H
    clear H
    have H := H1
    clear H1
    by_cases c3 : t143.toList = ([47, 97, 47, 98, 46, 120, 109, 108] : List UInt8)
    · rw [if_pos c3] at H
      have c3b0 : (t143.toList == ([47, 97, 47, 98, 46, 120, 109, 108] : List UInt8)) = true := beq_iff_eq.mpr c3
      have c3b1 : (t143.toList != ([47, 97, 47, 98, 46, 120, 109, 108] : List UInt8)) = false := bne_eq_false_iff_eq.mpr c3
      clear c3
      replace H := Option.bind_eq_some_iff.mp H
      obtain ⟨t145, A40, H⟩ := H
      replace H : (if t145.toList = ([47, 119, 111, 114, 100, 47, 95, 114, 101, 108, 115, 47, 100, 111, 99, 117, 109, 101, 110, 116, 46, 120, 109, 108, 46, 114, 101, 108, 115] : List UInt8) then ((parts_Rels.f k (⟨#[]⟩ : ByteArray)).bind fun t146 => (some (t146.toList == ([47, 95, 114, 101, 108, 115, 47, 46, 114, 101, 108, 115] : List UInt8)))) else (some false)) = some r := H
      have A4 := Aside0.mk A40
      clear A40
      by_cases c5 : t145.toList = ([47, 119, 111, 114, 100, 47, 95, 114, 101, 108, 115, 47, 100, 111, 99, 117, 109, 101, 110, 116, 46, 120, 109, 108, 46, 114, 101, 108, 115] : List UInt8)
      · rw [if_pos c5] at H
        have c5b0 : (t145.toList == ([47, 119, 111, 114, 100, 47, 95, 114, 101, 108, 115, 47, 100, 111, 99, 117, 109, 101, 110, 116, 46, 120, 109, 108, 46, 114, 101, 108, 115] : List UInt8)) = true := beq_iff_eq.mpr c5
        have c5b1 : (t145.toList != ([47, 119, 111, 114, 100, 47, 95, 114, 101, 108, 115, 47, 100, 111, 99, 117, 109, 101, 110, 116, 46, 120, 109, 108, 46, 114, 101, 108, 115] : List UInt8)) = false := bne_eq_false_iff_eq.mpr c5
        clear c5
        replace H := Option.bind_eq_some_iff.mp H
        obtain ⟨t146, A60, H⟩ := H
        replace H : (some (t146.toList == ([47, 95, 114, 101, 108, 115, 47, 46, 114, 101, 108, 115] : List UInt8))) = some r := H
        have A6 := Aside0.mk A60
        clear A60
        obtain rfl := Option.some.inj H
        go_enter Tryd.func11, Tryd.ntmps11
        go_wp2_with (first | ((with_reducible refine gate_callee (f := 8) rfl ?_); refine goesL_ (some 4) rfl rfl Tryd.func8 (by kernel_rfl) rfl #[.string (⟨#[47, 119, 111, 114, 100, 47, 100, 111, 99, 117, 109, 101, 110, 116, 46, 120, 109, 108]⟩ : ByteArray), .string (⟨#[46, 46, 47, 97, 47, 46, 47, 98, 46, 120, 109, 108]⟩ : ByteArray)] rfl (by (try simp only [List.map_toArray, List.map_cons, List.map_nil]); first | done | rfl | (simp only [List.length_drop, List.length_take]; rfl)) ?_; (with_reducible refine (parts_Resolve.calls k (⟨#[47, 119, 111, 114, 100, 47, 100, 111, 99, 117, 109, 101, 110, 116, 46, 120, 109, 108]⟩ : ByteArray) (⟨#[46, 46, 47, 97, 47, 46, 47, 98, 46, 120, 109, 108]⟩ : ByteArray) t143 true _ A1.out).mono ?_); rintro e w7 ⟨rfl, hb⟩; refine ⟨_, rfl, ?_⟩; have n0_ := Aside0.mk (below_step (by repeat (first | (with_reducible first | exact HB.out | apply below_alloc | apply pw_below_drewN | apply below_drew1) | exact HB.out)) hb); clear HB; have HB := n0_; clear n0_; (try clear hb); (try clear hb2); (try clear hk); (try clear hi)) | ((first | ((with_reducible refine gate_callee (f := 13) rfl ?_); (with_reducible refine gate_dst (N := 13) rfl ?_); refine gate_guard (by rfl) ?_; dsimp only; refine goesL_ (some 13) rfl rfl Tryd.func13 (by kernel_rfl) rfl #[.string (⟨#[47, 119, 111, 114, 100, 47, 100, 111, 99, 117, 109, 101, 110, 116, 46, 120, 109, 108]⟩ : ByteArray)] rfl (by (try simp only [List.map_toArray, List.map_cons, List.map_nil]); first | done | rfl | (simp only [List.length_drop, List.length_take]; rfl)) ?_; (with_reducible refine (parts_Rels.calls k (⟨#[47, 119, 111, 114, 100, 47, 100, 111, 99, 117, 109, 101, 110, 116, 46, 120, 109, 108]⟩ : ByteArray) t145 _ A4.out).mono ?_); rintro e w8 ⟨rfl, hb⟩; refine ⟨_, rfl, ?_⟩) | (go_at_call 13; (with_reducible refine (parts_Rels.calls k (⟨#[47, 119, 111, 114, 100, 47, 100, 111, 99, 117, 109, 101, 110, 116, 46, 120, 109, 108]⟩ : ByteArray) t145 _ A4.out).mono ?_); rintro e w8 ⟨rfl, hb⟩)); have n0_ := Aside0.mk (below_step (by repeat (first | (with_reducible first | exact HB.out | apply below_alloc | apply pw_below_drewN | apply below_drew1) | exact HB.out)) hb); clear HB; have HB := n0_; clear n0_; (try clear hb); (try clear hb2); (try clear hk); (try clear hi)) | ((first | ((with_reducible refine gate_callee (f := 13) rfl ?_); (with_reducible refine gate_dst (N := 17) rfl ?_); refine gate_guard (by rfl) ?_; dsimp only; refine goesL_ (some 17) rfl rfl Tryd.func13 (by kernel_rfl) rfl #[.string (⟨#[]⟩ : ByteArray)] rfl (by (try simp only [List.map_toArray, List.map_cons, List.map_nil]); first | done | rfl | (simp only [List.length_drop, List.length_take]; rfl)) ?_; (with_reducible refine (parts_Rels.calls k (⟨#[]⟩ : ByteArray) t146 _ A6.out).mono ?_); rintro e w9 ⟨rfl, hb⟩; refine ⟨_, rfl, ?_⟩) | (go_at_call 13; (with_reducible refine (parts_Rels.calls k (⟨#[]⟩ : ByteArray) t146 _ A6.out).mono ?_); rintro e w9 ⟨rfl, hb⟩)); have n0_ := Aside0.mk (below_step (by repeat (first | (with_reducible first | exact HB.out | apply below_alloc | apply pw_below_drewN | apply below_drew1) | exact HB.out)) hb); clear HB; have HB := n0_; clear n0_; (try clear hb); (try clear hb2); (try clear hk); (try clear hi)))
        go_ret
        exact ⟨by first | rfl | (simp [errW_none, errW_some] <;> rfl) | (simp [*, errW_none, errW_some] <;> rfl), by repeat (first | (with_reducible first | exact HB.out | apply below_alloc | apply pw_below_drewN | apply below_drew1) | exact HB.out)⟩
      · rw [if_neg c5] at H
        have c5b0 : (t145.toList == ([47, 119, 111, 114, 100, 47, 95, 114, 101, 108, 115, 47, 100, 111, 99, 117, 109, 101, 110, 116, 46, 120, 109, 108, 46, 114, 101, 108, 115] : List UInt8)) = false := beq_eq_false_iff_ne.mpr c5
        have c5b1 : (t145.toList != ([47, 119, 111, 114, 100, 47, 95, 114, 101, 108, 115, 47, 100, 111, 99, 117, 109, 101, 110, 116, 46, 120, 109, 108, 46, 114, 101, 108, 115] : List UInt8)) = true := bne_iff_ne.mpr c5
        obtain rfl := Option.some.inj H
        go_enter Tryd.func11, Tryd.ntmps11
        go_wp2_with (first | ((with_reducible refine gate_callee (f := 8) rfl ?_); refine goesL_ (some 4) rfl rfl Tryd.func8 (by kernel_rfl) rfl #[.string (⟨#[47, 119, 111, 114, 100, 47, 100, 111, 99, 117, 109, 101, 110, 116, 46, 120, 109, 108]⟩ : ByteArray), .string (⟨#[46, 46, 47, 97, 47, 46, 47, 98, 46, 120, 109, 108]⟩ : ByteArray)] rfl (by (try simp only [List.map_toArray, List.map_cons, List.map_nil]); first | done | rfl | (simp only [List.length_drop, List.length_take]; rfl)) ?_; (with_reducible refine (parts_Resolve.calls k (⟨#[47, 119, 111, 114, 100, 47, 100, 111, 99, 117, 109, 101, 110, 116, 46, 120, 109, 108]⟩ : ByteArray) (⟨#[46, 46, 47, 97, 47, 46, 47, 98, 46, 120, 109, 108]⟩ : ByteArray) t143 true _ A1.out).mono ?_); rintro e w10 ⟨rfl, hb⟩; refine ⟨_, rfl, ?_⟩; have n0_ := Aside0.mk (below_step (by repeat (first | (with_reducible first | exact HB.out | apply below_alloc | apply pw_below_drewN | apply below_drew1) | exact HB.out)) hb); clear HB; have HB := n0_; clear n0_; (try clear hb); (try clear hb2); (try clear hk); (try clear hi)) | ((first | ((with_reducible refine gate_callee (f := 13) rfl ?_); (with_reducible refine gate_dst (N := 13) rfl ?_); refine gate_guard (by rfl) ?_; dsimp only; refine goesL_ (some 13) rfl rfl Tryd.func13 (by kernel_rfl) rfl #[.string (⟨#[47, 119, 111, 114, 100, 47, 100, 111, 99, 117, 109, 101, 110, 116, 46, 120, 109, 108]⟩ : ByteArray)] rfl (by (try simp only [List.map_toArray, List.map_cons, List.map_nil]); first | done | rfl | (simp only [List.length_drop, List.length_take]; rfl)) ?_; (with_reducible refine (parts_Rels.calls k (⟨#[47, 119, 111, 114, 100, 47, 100, 111, 99, 117, 109, 101, 110, 116, 46, 120, 109, 108]⟩ : ByteArray) t145 _ A4.out).mono ?_); rintro e w11 ⟨rfl, hb⟩; refine ⟨_, rfl, ?_⟩) | (go_at_call 13; (with_reducible refine (parts_Rels.calls k (⟨#[47, 119, 111, 114, 100, 47, 100, 111, 99, 117, 109, 101, 110, 116, 46, 120, 109, 108]⟩ : ByteArray) t145 _ A4.out).mono ?_); rintro e w11 ⟨rfl, hb⟩)); have n0_ := Aside0.mk (below_step (by repeat (first | (with_reducible first | exact HB.out | apply below_alloc | apply pw_below_drewN | apply below_drew1) | exact HB.out)) hb); clear HB; have HB := n0_; clear n0_; (try clear hb); (try clear hb2); (try clear hk); (try clear hi)))
        go_ret
        exact ⟨by first | rfl | (simp [errW_none, errW_some] <;> rfl) | (simp [*, errW_none, errW_some] <;> rfl), by repeat (first | (with_reducible first | exact HB.out | apply below_alloc | apply pw_below_drewN | apply below_drew1) | exact HB.out)⟩
    · rw [if_neg c3] at H
      have c3b0 : (t143.toList == ([47, 97, 47, 98, 46, 120, 109, 108] : List UInt8)) = false := beq_eq_false_iff_ne.mpr c3
      have c3b1 : (t143.toList != ([47, 97, 47, 98, 46, 120, 109, 108] : List UInt8)) = true := bne_iff_ne.mpr c3
      obtain rfl := Option.some.inj H
      go_enter Tryd.func11, Tryd.ntmps11
      go_wp2_with (first | ((with_reducible refine gate_callee (f := 8) rfl ?_); refine goesL_ (some 4) rfl rfl Tryd.func8 (by kernel_rfl) rfl #[.string (⟨#[47, 119, 111, 114, 100, 47, 100, 111, 99, 117, 109, 101, 110, 116, 46, 120, 109, 108]⟩ : ByteArray), .string (⟨#[46, 46, 47, 97, 47, 46, 47, 98, 46, 120, 109, 108]⟩ : ByteArray)] rfl (by (try simp only [List.map_toArray, List.map_cons, List.map_nil]); first | done | rfl | (simp only [List.length_drop, List.length_take]; rfl)) ?_; (with_reducible refine (parts_Resolve.calls k (⟨#[47, 119, 111, 114, 100, 47, 100, 111, 99, 117, 109, 101, 110, 116, 46, 120, 109, 108]⟩ : ByteArray) (⟨#[46, 46, 47, 97, 47, 46, 47, 98, 46, 120, 109, 108]⟩ : ByteArray) t143 true _ A1.out).mono ?_); rintro e w12 ⟨rfl, hb⟩; refine ⟨_, rfl, ?_⟩; have n0_ := Aside0.mk (below_step (by repeat (first | (with_reducible first | exact HB.out | apply below_alloc | apply pw_below_drewN | apply below_drew1) | exact HB.out)) hb); clear HB; have HB := n0_; clear n0_; (try clear hb); (try clear hb2); (try clear hk); (try clear hi)))
      go_ret
      exact ⟨by first | rfl | (simp [errW_none, errW_some] <;> rfl) | (simp [*, errW_none, errW_some] <;> rfl), by repeat (first | (with_reducible first | exact HB.out | apply below_alloc | apply pw_below_drewN | apply below_drew1) | exact HB.out)⟩
  · replace c2 := Bool.eq_false_iff.mpr c2
    subst c2
    have H1 : (some false) = some r := by rw [if_neg (show ¬ (false = true) by decide)] at H; exact H
    clear H
    have H := H1
    clear H1
    obtain rfl := Option.some.inj H
    go_enter Tryd.func11, Tryd.ntmps11
    go_wp2_with (first | ((with_reducible refine gate_callee (f := 8) rfl ?_); refine goesL_ (some 4) rfl rfl Tryd.func8 (by kernel_rfl) rfl #[.string (⟨#[47, 119, 111, 114, 100, 47, 100, 111, 99, 117, 109, 101, 110, 116, 46, 120, 109, 108]⟩ : ByteArray), .string (⟨#[46, 46, 47, 97, 47, 46, 47, 98, 46, 120, 109, 108]⟩ : ByteArray)] rfl (by (try simp only [List.map_toArray, List.map_cons, List.map_nil]); first | done | rfl | (simp only [List.length_drop, List.length_take]; rfl)) ?_; (with_reducible refine (parts_Resolve.calls k (⟨#[47, 119, 111, 114, 100, 47, 100, 111, 99, 117, 109, 101, 110, 116, 46, 120, 109, 108]⟩ : ByteArray) (⟨#[46, 46, 47, 97, 47, 46, 47, 98, 46, 120, 109, 108]⟩ : ByteArray) t143 false _ A1.out).mono ?_); rintro e w13 ⟨rfl, hb⟩; refine ⟨_, rfl, ?_⟩; have n0_ := Aside0.mk (below_step (by repeat (first | (with_reducible first | exact HB.out | apply below_alloc | apply pw_below_drewN | apply below_drew1) | exact HB.out)) hb); clear HB; have HB := n0_; clear n0_; (try clear hb); (try clear hb2); (try clear hk); (try clear hi)))
    go_ret
    exact ⟨by first | rfl | (simp [errW_none, errW_some] <;> rfl) | (simp [*, errW_none, errW_some] <;> rfl), by repeat (first | (with_reducible first | exact HB.out | apply below_alloc | apply pw_below_drewN | apply below_drew1) | exact HB.out)⟩

end Go.Proofs.YtdooaaefldjinaaDoor.PA
