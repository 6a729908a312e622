/- A number of up to nine digits and its sign is a marker. No conditions. -/
import Derived.Test.YtofklonjmdefgaaDoorPAx4
import Derived.Test.YtofklonjmdefgaaDoorNumb
namespace Go.Proofs.YtofklonjmdefgaaDoor.Pure
open Go.RowKit Go.Proofs.YtofklonjmdefgaaDoor.PA Go.Proofs.YtofklonjmdefgaaDoorW.PrintWords Go.Proofs.YtofklonjmdefgaaDoorW.PrintLast
open Go.Proofs.YtofklonjmdefgaaDoorAid Go.Proofs.YtofklonjmdefgaaDoor.Spec
set_option linter.unusedVariables false
def isDig (b : UInt8) : Prop := 48 ≤ b.toNat ∧ b.toNat ≤ 57
theorem one_list (n : Int) : (strOfNums [n]).data.toList = [n.toNat.toUInt8] := by simp [strOfNums]
theorem size_list (s : ByteArray) : s.size = s.data.toList.length := by simp
theorem digit_u8 (d : Int) (h0 : 0 ≤ d) (h1 : d ≤ 9) : ((48 + d).toNat.toUInt8).toNat = (48 + d).toNat := by
  rw [Nat.toUInt8_eq, UInt8.toNat_ofNat']
  omega
theorem dec_step (x : Int) (hx : 0 ≤ x) : (wrap64 (48 + Int.tmod x 10)) % 256 = 48 + x % 10 ∧ wrap64 (Int.tdiv x 10) = wrap64 (x / 10) := by
  rw [Int.tmod_eq_emod_of_nonneg hx, Int.tdiv_eq_ediv_of_nonneg hx]
  refine ⟨?_, rfl⟩
  unfold wrap64
  omega
theorem last_ev (v : Int) (hv : 0 ≤ v) (text : ByteArray) (ht : text.size ≤ 100) (s : ByteArray) (hs : s.size ≤ 40) (h0 : 0 < s.size) (hd : ∀ b ∈ s.data.toList, isDig b) (hval : digVal s.data.toList 0 = v) (c : Int) (hc : c = 46 ∨ c = 41) :
    Ev (fun k => rubricatorlaw18_LeafNumbers.j3 k v text s c) true := by
  refine ev_succ ?_
  simp only [rubricatorlaw18_LeafNumbers.j3]
  have hc1 : (strOfNums [c]).data.toList = [c.toNat.toUInt8] := one_list c
  have hcs : (strOfNums [c]).size = 1 := by rw [size_list, hc1]; rfl
  have hT : ((s ++ strOfNums [c]) ++ (⟨#[32]⟩ : ByteArray) ++ text).data.toList = s.data.toList ++ (c.toNat.toUInt8 :: 32 :: text.data.toList) := by
    simp [hc1]
  have hTs : ((s ++ strOfNums [c]) ++ (⟨#[32]⟩ : ByteArray) ++ text).size = s.size + 2 + text.size := by
    rw [size_list, hT, size_list s, size_list text]
    simp
    omega
  have h1s : (⟨#[32]⟩ : ByteArray).size = 1 := rfl
  refine ev_some (ev_if (by omega) (ev_if (by rw [ByteArray.size_append]; omega) (ev_if (by rw [ByteArray.size_append, ByteArray.size_append]; omega) ?_)))
  have hbt : ∀ i : Nat, (h : i < s.size + 2 + text.size) → bt ((s ++ strOfNums [c]) ++ (⟨#[32]⟩ : ByteArray) ++ text) (i : Int) = (((s.data.toList ++ (c.toNat.toUInt8 :: 32 :: text.data.toList)).getD i 0).toNat : Int) := by
    intro i h
    rw [bt_nat _ i (by rw [hTs]; exact h), List.getD_eq_getElem?_getD, ← hT, List.getElem?_eq_getElem (by rw [← size_list, hTs]; exact h)]
    rfl
  have hsl : s.data.toList.length = s.size := (size_list s).symm
  have hm := marker_digits ((s ++ strOfNums [c]) ++ (⟨#[32]⟩ : ByteArray) ++ text) (by rw [hTs]; omega) s.size (by rw [hTs]; omega) h0 (fun i hi => ?_) ?_ ?_ s.size 0 0 (by omega) (by omega) (by omega) (by decide)
  · have hcb : bt ((s ++ strOfNums [c]) ++ (⟨#[32]⟩ : ByteArray) ++ text) (s.size : Int) = c := by
      rw [hbt s.size (by omega), List.getD_eq_getElem?_getD, List.getElem?_append_right (by omega), hsl, Nat.sub_self]
      rcases hc with rfl | rfl <;> rfl
    have hv2 : digVal ((((s ++ strOfNums [c]) ++ (⟨#[32]⟩ : ByteArray) ++ text).data.toList.drop 0).take s.size) 0 = v := by
      rw [hT, List.drop_zero, ← hsl, List.take_left, hval]
    rw [hcb, hv2] at hm
    refine Ev.bind hm ?_
    by_cases c9 : s.size ≤ 9
    · rw [if_pos c9]
      refine ev_else (by omega) (ev_if ?_ (ev_if rfl (ev_if rfl known_end)))
      show ((s.size + 1 : Nat) : Int) = wrap64 ((s.size : Int) + 1)
      unfold wrap64
      omega
    · rw [if_neg c9]
      exact ev_if (by omega) (ev_if rfl (ev_if rfl (ev_if rfl known_end)))
  · have hil : i < s.data.toList.length := by omega
    have := hd _ (List.getElem_mem hil)
    refine ⟨by rw [hTs]; omega, ?_⟩
    rw [hbt i (by omega), List.getD_eq_getElem?_getD, List.getElem?_append_left hil, List.getElem?_eq_getElem hil]
    unfold isDig at this
    simp only [Option.getD_some]
    omega
  · rw [hbt s.size (by omega), List.getD_eq_getElem?_getD, List.getElem?_append_right (by omega), hsl, Nat.sub_self]
    rcases hc with rfl | rfl
    · exact .inl rfl
    · exact .inr rfl
  · rw [hbt (s.size + 1) (by omega), List.getD_eq_getElem?_getD, List.getElem?_append_right (by omega), hsl, show s.size + 1 - s.size = 1 by omega]
    rfl
theorem zeros_ev (v : Int) (hv : 0 ≤ v) (z : Int) (hz : 0 ≤ z ∧ z ≤ 12) (b : Bool) (text : ByteArray) (ht : text.size ≤ 100) : ∀ (d : Nat) (i : Int) (s : ByteArray), 0 ≤ i → i + d = z → s.size ≤ 9 + i.toNat → 0 < s.size → (∀ b ∈ s.data.toList, isDig b) → digVal s.data.toList 0 = v →
    Ev (fun k => rubricatorlaw18_LeafNumbers.l1 k v z b text s i) true := by
  intro d
  induction d with
  | zero =>
    intro i s h0 hi hs hs0 hd hval
    refine ev_succ ?_
    simp only [rubricatorlaw18_LeafNumbers.l1]
    refine ev_else (by omega) ?_
    cases b with
    | true => exact ev_if rfl (last_ev v hv text ht s (by omega) hs0 hd hval 41 (.inr rfl))
    | false => exact ev_else (by simp) (last_ev v hv text ht s (by omega) hs0 hd hval 46 (.inl rfl))
  | succ d ih =>
    intro i s h0 hi hs hs0 hd hval
    refine ev_succ ?_
    simp only [rubricatorlaw18_LeafNumbers.l1]
    refine ev_if (by omega) (ev_if (by omega) ?_)
    have e : wrap64 (i + 1) = i + 1 := by unfold wrap64; omega
    rw [e]
    have hl : ((⟨#[48]⟩ : ByteArray) ++ s).data.toList = 48 :: s.data.toList := by simp
    refine ih (i + 1) _ (by omega) (by omega) ?_ ?_ ?_ ?_
    · rw [size_list, hl, List.length_cons, ← size_list]; omega
    · rw [size_list, hl, List.length_cons]; omega
    · rw [hl]
      intro b hb
      rcases List.mem_cons.1 hb with rfl | hb
      · exact ⟨by decide, by decide⟩
      · exact hd b hb
    · rw [hl, digVal]
      exact hval
theorem dec_ev (v : Int) (hv : 0 ≤ v) (z : Int) (hz : 0 ≤ z ∧ z ≤ 12) (b : Bool) (text : ByteArray) (ht : text.size ≤ 100) : ∀ (d : Nat) (x : Int) (s : ByteArray), 0 ≤ x → s.size + d = 9 → x < 10 ^ d → (0 < s.size ∨ 0 < d) → (∀ b ∈ s.data.toList, isDig b) → digVal s.data.toList x = v →
    Ev (fun k => rubricatorlaw18_LeafNumbers.l0 k v z b text s x) true := by
  have p9 : ∀ i : Nat, i ≤ 9 → (10 : Int) ^ i ≤ 1000000000 := by
    intro i hi
    have : ∀ j : Fin 10, (10 : Int) ^ (j : Nat) ≤ 1000000000 := by decide
    exact this ⟨i, by omega⟩
  intro d
  induction d with
  | zero =>
    intro x s h0 hs hx hne hd hval
    have : x = 0 := by simp at hx; omega
    subst this
    refine ev_succ ?_
    simp only [rubricatorlaw18_LeafNumbers.l0]
    refine ev_else (by omega) (ev_else (by rw [toList_nil]; omega) (zeros_ev v hv z hz b text ht z.toNat 0 s (by omega) (by omega) (by omega) (by omega) hd hval))
  | succ d ih =>
    intro x s h0 hs hx hne hd hval
    have hp := p9 (d + 1) (by omega)
    obtain ⟨e1, e2⟩ := dec_step x h0
    have e3 : wrap64 (x / 10) = x / 10 := by unfold wrap64; omega
    have hu := digit_u8 (x % 10) (by omega) (by omega)
    have hl : (strOfNums [48 + x % 10] ++ s).data.toList = (48 + x % 10).toNat.toUInt8 :: s.data.toList := by rw [ByteArray.data_append, Array.toList_append, one_list]; rfl
    have hstep : Ev (fun k => rubricatorlaw18_LeafNumbers.l0 k v z b text (strOfNums [48 + x % 10] ++ s) (x / 10)) true := by
      refine ih (x / 10) _ (by omega) ?_ ?_ ?_ ?_ ?_
      · rw [size_list, hl, List.length_cons, ← size_list]; omega
      · rw [Int.pow_succ] at hx
        omega
      · left
        rw [size_list, hl, List.length_cons]; omega
      · rw [hl]
        intro b hb
        rcases List.mem_cons.1 hb with rfl | hb
        · unfold isDig
          rw [hu]
          omega
        · exact hd b hb
      · rw [hl, digVal, hu]
        rw [show 10 * (x / 10) + (((48 + x % 10).toNat : Int) - 48) = x by omega]
        exact hval
    have hsz : (strOfNums [48 + x % 10]).size = 1 := by rw [size_list, one_list]; rfl
    refine ev_succ ?_
    simp only [rubricatorlaw18_LeafNumbers.l0]
    rw [e1, e2, e3]
    by_cases c : x > 0
    · exact ev_if c (ev_some (ev_if (by omega) hstep))
    · refine ev_else c ?_
      by_cases c2 : s.size = 0
      · exact ev_if (by rw [toList_nil]; exact c2) (ev_some (ev_if (by omega) hstep))
      · have : x = 0 := by omega
        subst this
        exact ev_else (by rw [toList_nil]; exact c2) (zeros_ev v hv z hz b text ht z.toNat 0 s (by omega) (by omega) (by omega) (by omega) hd hval)
theorem LeafNumbers : rubricatorlaw18_LeafNumbers.Pure := by
  intro v z b text hv hz ht
  refine Ev.rounds (r := true) ?_
  have bad : Ev (fun k => rubricatorlaw18_LeafNumbers.j0 k v z b text true) true := by
    refine ev_succ ?_
    simp only [rubricatorlaw18_LeafNumbers.j0]
    exact known_end
  unfold rubricatorlaw18_LeafNumbers.f
  by_cases c1 : v < 0
  · exact ev_if c1 bad
  refine ev_else c1 ?_
  by_cases c2 : v > 999999999
  · exact ev_if c2 bad
  refine ev_else c2 ?_
  by_cases c3 : z < 0
  · exact ev_if c3 bad
  refine ev_else c3 ?_
  by_cases c4 : z > 12
  · exact ev_if c4 bad
  refine ev_else c4 ?_
  by_cases c5 : (text.size : Int) > 100
  · rw [decide_eq_true c5]
    exact bad
  · rw [decide_eq_false c5]
    refine ev_succ ?_
    simp only [rubricatorlaw18_LeafNumbers.j0]
    refine ev_else (by simp) ?_
    exact dec_ev v (by omega) z (by omega) b text (by omega) 9 v _ (by omega) rfl (by omega) (.inr (by omega)) (by simp) rfl
end Go.Proofs.YtofklonjmdefgaaDoor.Pure
