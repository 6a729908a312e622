/- Heading where a text begins with signs and a blank, and what trimming leaves. No conditions beyond those of each theorem. -/
import Derived.Test.YtofklonjmdefgaaDoorPAx3
import Derived.Test.YtofklonjmdefgaaDoorNumb
namespace Go.Proofs.YtofklonjmdefgaaDoor.Spec
open Go.RowKit Go.Proofs.YtofklonjmdefgaaDoor.PA Go.Proofs.YtofklonjmdefgaaDoorW.PrintWords Go.Proofs.YtofklonjmdefgaaDoorW.PrintLast
open Go.Proofs.YtofklonjmdefgaaDoorAid
set_option linter.unusedVariables false
def mkS (l : List UInt8) : ByteArray := ⟨l.toArray⟩
theorem mkS_list (l : List UInt8) : (mkS l).data.toList = l := rfl
theorem mkS_size (l : List UInt8) : (mkS l).size = l.length := by simp [mkS, ByteArray.size]
theorem mkS_of (s : ByteArray) : mkS s.data.toList = s := rfl
theorem bt_mk (l : List UInt8) (i : Nat) (h : i < l.length) : bt (mkS l) (i : Int) = (l[i].toNat : Int) := bt_nat (mkS l) i (by rw [mkS_size]; exact h)
theorem run_ev (c : UInt8) (X : List UInt8) (hX : ∀ b, X.head? = some b → b ≠ c) : ∀ (d i n : Nat), i + d = n → n + X.length ≤ 1099511627776 → Ev (fun k => leaf_run.l0 k (mkS (List.replicate n c ++ X)) (c.toNat : Int) (i : Int)) (n : Int) := by
  intro d
  induction d with
  | zero =>
    intro i n hi hn
    obtain rfl : i = n := by omega
    refine ev_succ ?_
    simp only [leaf_run.l0]
    rw [mkS_size]
    cases X with
    | nil => exact ev_else (by simp) (Ev.now _)
    | cons b X =>
      have hb := hX b rfl
      refine ev_if (by simp; omega) (ev_if (by omega) (ev_else ?_ (Ev.now _)))
      rw [bt_mk _ i (by simp)]
      have e : (List.replicate i c ++ b :: X)[i]'(by simp) = b := by rw [List.getElem_append_right (by simp)]; simp
      rw [e]
      intro h
      exact hb (UInt8.toNat_inj.1 (by omega))
  | succ d ih =>
    intro i n hi hn
    refine ev_succ ?_
    simp only [leaf_run.l0]
    rw [mkS_size]
    refine ev_if (by simp; omega) (ev_if (by omega) (ev_if ?_ ?_))
    · rw [bt_mk _ i (by simp; omega)]
      have e : (List.replicate n c ++ X)[i]'(by simp; omega) = c := by rw [List.getElem_append_left (by simp; omega)]; simp
      rw [e]
    · rw [w1 i (by omega)]
      exact ih (i + 1) n (by omega) hn
theorem dropW_all {p : UInt8 → Bool} (A X : List UInt8) (hA : ∀ b ∈ A, p b = true) : (A ++ X).dropWhile p = X.dropWhile p := by
  induction A with
  | nil => rfl
  | cons a A ih =>
    rw [List.cons_append, List.dropWhile_cons_of_pos (hA a List.mem_cons_self)]
    exact ih (fun b hb => hA b (List.mem_cons_of_mem _ hb))
theorem dropW_head {p : UInt8 → Bool} (X : List UInt8) (hX : ∀ b, X.head? = some b → p b = false) : X.dropWhile p = X := by
  cases X with
  | nil => rfl
  | cons b X => rw [List.dropWhile_cons_of_neg (by rw [hX b rfl]; simp)]
theorem trimR (X B cs : List UInt8) (hB : ∀ b ∈ B, cs.contains b = true) (hX : ∀ b, X.getLast? = some b → cs.contains b = false) : Lib.trimRightS (X ++ B) cs = X := by
  unfold Lib.trimRightS
  rw [List.reverse_append, dropW_all _ _ (fun b hb => hB b (List.mem_reverse.1 hb)), dropW_head _ (fun b hb => hX b (by rw [← List.head?_reverse]; exact hb)), List.reverse_reverse]
theorem trimL (A X cs : List UInt8) (hA : ∀ b ∈ A, cs.contains b = true) (hX : ∀ b, X.head? = some b → cs.contains b = false) : Lib.trimLeftS (A ++ X) cs = X := by
  unfold Lib.trimLeftS
  rw [dropW_all _ _ hA, dropW_head _ hX]
theorem trim_eq (A X B cs : List UInt8) (hA : ∀ b ∈ A, cs.contains b = true) (hB : ∀ b ∈ B, cs.contains b = true) (h1 : ∀ b, X.head? = some b → cs.contains b = false) (h2 : ∀ b, X.getLast? = some b → cs.contains b = false) (hne : X ≠ []) : Lib.trimS (A ++ X ++ B) cs = X := by
  unfold Lib.trimS
  rw [trimR (A ++ X) B cs hB (fun b hb => h2 b (by rw [List.getLast?_append] at hb; cases hx : X.getLast? with
    | none => exact absurd (List.getLast?_eq_none_iff.1 hx) hne
    | some c => rw [hx] at hb; simpa using hb)), trimL A X cs hA h1]
theorem strip_eq (s : ByteArray) (hs : s.size ≤ 1099511627776) (X : List UInt8) (h : Lib.trimS s.data.toList [32, 9] = X) : leaf_strip.f s = some (mkS X) := by
  unfold leaf_strip.f strings_Trim.f
  rw [if_pos (by omega), if_pos (by decide), if_pos (by decide)]
  simp only [Option.bind_some, Option.some.injEq]
  rw [← h]
  rfl
theorem right_eq (s : ByteArray) (hs : s.size ≤ 1099511627776) (X : List UInt8) (h : Lib.trimRightS s.data.toList [35] = X) : strings_TrimRight.f s (⟨#[35]⟩ : ByteArray) = some (mkS X) := by
  unfold strings_TrimRight.f
  rw [if_pos (by omega), if_pos (by decide), if_pos (by decide)]
  simp only [Option.some.injEq]
  rw [← h]
  rfl
/-- Heading of n signs, a blank and what follows: Y is what is between blanks, x what is left of it without the signs at its end. -/
theorem heading_ev (n : Nat) (R : List UInt8) (hn : n + R.length ≤ 1000000) : (n < 1 ∨ 6 < n → Ev (fun k => leaf_Heading.f k (mkS (List.replicate n 35 ++ 32 :: R))) (0, (⟨#[]⟩ : ByteArray))) ∧
    (1 ≤ n → n ≤ 6 → ∀ Y x W : List UInt8, Lib.trimS (32 :: R) [32, 9] = Y → Lib.trimRightS Y [35] = x → (∃ z, x.getLast? = some z ∧ (if z = 32 ∨ z = 9 then Lib.trimS x [32, 9] = W else W = Y)) → Y.length ≤ 1000000 → x.length ≤ 1000000 →
      Ev (fun k => leaf_Heading.f k (mkS (List.replicate n 35 ++ 32 :: R))) ((n : Int), mkS W)) := by
  have hrun : Ev (fun k => leaf_run.f k (mkS (List.replicate n 35 ++ 32 :: R)) 35) (n : Int) := run_ev 35 (32 :: R) (by intro b hb; simp at hb; rw [← hb]; decide) n 0 n (by omega) (by simp; omega)
  have hsz : (mkS (List.replicate n 35 ++ 32 :: R)).size = n + (R.length + 1) := by rw [mkS_size]; simp
  have hx : ((mkS (List.replicate n 35 ++ 32 :: R)).extract n (mkS (List.replicate n 35 ++ 32 :: R)).size).data.toList = 32 :: R := by
    rw [← Lib.toList_data, Lib.extract_toList, mkS_list, hsz, List.drop_left' (by simp), List.take_of_length_le (by first | (simp; done) | (simp; omega))]
  constructor
  · intro h
    have hj : Ev (fun k => leaf_Heading.j0 k (mkS (List.replicate n 35 ++ 32 :: R)) (n : Int) true) (0, (⟨#[]⟩ : ByteArray)) := by
      refine ev_succ ?_
      simp only [leaf_Heading.j0]
      exact Ev.now _
    unfold leaf_Heading.f
    refine Ev.bind hrun ?_
    by_cases c : (n : Int) < 1
    · exact ev_if c hj
    · exact ev_else c (ev_if (by omega) hj)
  · intro h1 h6 Y x W hY hX hW hYl hxl
    unfold leaf_Heading.f
    refine Ev.bind hrun (ev_else (by omega) (ev_else (by omega) (ev_if (by omega) (ev_if (by rw [hsz]; omega) ?_))))
    rw [Int.toNat_natCast]
    have hb : bt (mkS (List.replicate n 35 ++ 32 :: R)) (n : Int) = 32 := by
      rw [bt_mk _ n (by simp)]
      have e : (List.replicate n (35 : UInt8) ++ 32 :: R)[n]'(by simp) = 32 := by rw [List.getElem_append_right (by simp)]; simp
      rw [e]
      rfl
    rw [ends_eq _ n (by rw [hsz]; omega), if_pos (by rw [hsz]; omega), decide_eq_true (.inl hb)]
    refine ev_some (ev_succ ?_)
    simp only [leaf_Heading.j0]
    refine ev_else (by simp) (ev_if (by omega) (ev_if (by rw [hsz]; omega) ?_))
    rw [Int.toNat_natCast, strip_eq _ (by first | (simp [hsz]; done) | (simp [hsz]; omega)) Y (by rw [hx]; exact hY)]
    refine ev_some ?_
    rw [right_eq _ (by rw [mkS_size]; omega) x (by rw [mkS_list]; exact hX)]
    refine ev_some ?_
    obtain ⟨z, hz, hw⟩ := hW
    have hxne : x ≠ [] := by intro e; rw [e] at hz; cases hz
    have hxl2 : 0 < x.length := List.length_pos_iff.2 hxne
    refine ev_else (by rw [toList_nil, mkS_size]; omega) ?_
    have ew : wrap64 (((mkS x).size : Int) - 1) = ((x.length - 1 : Nat) : Int) := by rw [mkS_size]; unfold wrap64; omega
    rw [ew]
    refine ev_if (by omega) (ev_if (by rw [mkS_size]; omega) ?_)
    have hbz : bt (mkS x) ((x.length - 1 : Nat) : Int) = (z.toNat : Int) := by
      rw [bt_mk _ _ (by omega)]
      rw [List.getLast?_eq_getElem?, List.getElem?_eq_getElem (by omega)] at hz
      rw [Option.some.inj hz]
    rw [hbz]
    unfold strings_IndexByte.f
    refine ev_some ?_
    have hbl := blanks (z.toNat : Int) (by have := z.toNat_lt; omega)
    by_cases c : z = 32 ∨ z = 9
    · rw [if_pos c] at hw
      refine ev_if (hbl.2 (by rcases c with rfl | rfl <;> decide)) ?_
      rw [strip_eq _ (by rw [mkS_size]; omega) W (by rw [mkS_list]; exact hw)]
      exact Ev.now _
    · rw [if_neg c] at hw
      subst hw
      refine ev_else (fun h => c ?_) (Ev.now _)
      rcases hbl.1 h with h | h
      · exact .inl (UInt8.toNat_inj.1 (by have : (32 : UInt8).toNat = 32 := rfl; omega))
      · exact .inr (UInt8.toNat_inj.1 (by have : (9 : UInt8).toNat = 9 := rfl; omega))
end Go.Proofs.YtofklonjmdefgaaDoor.Spec
