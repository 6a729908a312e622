/- What the document's Check answers of any styles is what the program's does. Plain law; the conditions are those that each theorem says. -/
import Derived.Test.YtahgfbficidjlaaDoorPAx3
import Derived.Test.YtahgfbficidjlaaDoorAid
import Derived.Test.YtahgfbficidjlaaDoorChain
import Derived.Lib.Strings
import Derived.WideShapes
namespace Go.Proofs.YtahgfbficidjlaaDoor.Sty
open Go.RowKit Go.Proofs.YtahgfbficidjlaaDoor.PA Go.Proofs.YtahgfbficidjlaaDoorW.PrintWords Go.Proofs.YtahgfbficidjlaaDoorW.PrintLast Go.Proofs.YtahgfbficidjlaaDoorAid Go.Proofs.YtahgfbficidjlaaDoorChain
set_option linter.unusedVariables false
set_option linter.unusedSimpArgs false

def X (l : List S35) (i : Nat) : S35 := l.getD i z35
theorem rd_X (l : List S35) (i : Nat) : rd_T35 l (i : Int) = X l i := rfl
theorem tl {a b : ByteArray} : a.toList = b.toList ↔ a = b := by
  constructor
  · intro h
    rw [Lib.toList_data, Lib.toList_data] at h
    obtain ⟨⟨x⟩⟩ := a
    obtain ⟨⟨y⟩⟩ := b
    simp at h
    rw [h]
  · intro h; rw [h]
theorem dl {a b : ByteArray} : a.data.toList = b.data.toList ↔ a = b := by rw [← Lib.toList_data, ← Lib.toList_data, tl]
theorem q_iff {id : ByteArray} {s : S35} : style_find.q id s = true ↔ s.f0 = id := by
  unfold style_find.q
  rw [beq_iff_eq, tl]
/-! ### where an ID stands -/
theorem ix_spec {id : ByteArray} : ∀ {l : List S35} {k : Nat}, style_find.ix id l = some k → k < l.length ∧ (X l k).f0 = id ∧ ∀ j, j < k → (X l j).f0 ≠ id
  | [], k, h => by cases h
  | x :: r, k, h => by
    rw [style_find.ix] at h
    by_cases hq : style_find.q id x = true
    · rw [if_pos hq] at h
      obtain rfl := Option.some.inj h
      exact ⟨Nat.succ_pos _, q_iff.1 hq, fun j hj => absurd hj (Nat.not_lt_zero _)⟩
    · rw [if_neg hq] at h
      cases hi : style_find.ix id r with
      | none => rw [hi] at h; cases h
      | some k' =>
        rw [hi] at h
        obtain rfl := Option.some.inj h
        obtain ⟨h1, h2, h3⟩ := ix_spec hi
        refine ⟨Nat.succ_lt_succ h1, h2, fun j hj => ?_⟩
        cases j with
        | zero => exact fun e => hq (q_iff.2 e)
        | succ j => exact h3 j (by have h4 : j + 1 < k' + 1 := hj; omega)
theorem ix_none {id : ByteArray} : ∀ {l : List S35}, style_find.ix id l = none → ∀ j, j < l.length → (X l j).f0 ≠ id
  | [], _, j, hj => absurd hj (Nat.not_lt_zero _)
  | x :: r, h, j, hj => by
    rw [style_find.ix] at h
    by_cases hq : style_find.q id x = true
    · rw [if_pos hq] at h; cases h
    · rw [if_neg hq] at h
      cases hi : style_find.ix id r with
      | some k' => rw [hi] at h; cases h
      | none =>
        cases j with
        | zero => exact fun e => hq (q_iff.2 e)
        | succ j => exact ix_none hi j (by simpa using hj)
theorem ix_of {id : ByteArray} {l : List S35} {k : Nat} (hk : k < l.length) (h : (X l k).f0 = id) (hA : ∀ j, j < k → (X l j).f0 ≠ id) : style_find.ix id l = some k := by
  cases hi : style_find.ix id l with
  | none => exact absurd h (ix_none hi k hk)
  | some m =>
    obtain ⟨h1, h2, h3⟩ := ix_spec hi
    rcases Nat.lt_trichotomy m k with h4 | h4 | h4
    · exact absurd h2 (hA m h4)
    · rw [h4]
    · exact absurd h (h3 k h4)
theorem at_ix (l : List S35) (id : ByteArray) : style_find.at_ l id = (style_find.ix id l).map (X l) := by
  cases h : style_find.ix id l with
  | none => exact style_find.at_none id l h
  | some k => exact (style_find.at_some id l k h).2
theorem find_go (l : List S35) (id : ByteArray) (hl : l.length ≤ 1000000) : ∀ (e i : Nat), l.length ≤ i + e → i ≤ l.length → (∀ j, j < i → (X l j).f0 ≠ id) → Ev (fun k => rubricatorref14_Find.l0 k l id (i : Int)) (style_find.ret (style_find.ix id l)) := by
  intro e
  induction e with
  | zero =>
    intro i h1 h2 hA
    obtain rfl : i = l.length := by omega
    refine ev_succ ?_
    simp only [rubricatorref14_Find.l0]
    refine ev_else (by omega) ?_
    cases hi : style_find.ix id l with
    | none => exact ev_val rfl
    | some m => exact absurd (ix_spec hi).2.1 (hA m (ix_spec hi).1)
  | succ e ih =>
    intro i h1 h2 hA
    by_cases hi : i = l.length
    · subst hi
      exact ih _ (by omega) h2 hA
    refine ev_succ ?_
    simp only [rubricatorref14_Find.l0]
    refine ev_if (by omega) (ev_if (by omega) ?_)
    rw [rd_X]
    by_cases h : (X l i).f0 = id
    · refine ev_if (tl.2 h) (ev_val ?_)
      rw [ix_of (by omega) h hA]
      rfl
    · refine ev_else (fun e => h (tl.1 e)) ?_
      rw [show wrap64 ((i : Int) + 1) = ((i + 1 : Nat) : Int) by unfold wrap64; omega]
      refine ih (i + 1) (by omega) (by omega) (fun j hj => ?_)
      by_cases hj2 : j = i
      · rw [hj2]; exact h
      · exact hA j (by omega)
theorem find_ev (l : List S35) (id : ByteArray) (hl : l.length ≤ 1000000) : Ev (fun k => rubricatorref14_Find.f k l id) (style_find.ret (style_find.ix id l)) :=
  find_go l id hl l.length 0 (by omega) (Nat.zero_le _) (fun j hj => absurd hj (Nat.not_lt_zero _))
/-! ### what the map holds -/
theorem ids_ge (l : List S35) (id : ByteArray) : ∀ k, 0 ≤ style_Check.ids l k id
  | 0 => Int.le_refl _
  | k + 1 => by
    rw [style_Check.ids]
    split
    · omega
    · exact ids_ge l id k
theorem ids_pos (l : List S35) (id : ByteArray) : ∀ k, 0 < style_Check.ids l k id ↔ ∃ j, j < k ∧ (X l j).f0 = id
  | 0 => ⟨fun h => absurd h (Int.lt_irrefl _), fun ⟨j, hj, _⟩ => absurd hj (Nat.not_lt_zero _)⟩
  | k + 1 => by
    rw [style_Check.ids]
    by_cases h : id.data.toList = (l.getD k z35).f0.data.toList
    · rw [if_pos h]
      exact ⟨fun _ => ⟨k, Nat.lt_succ_self _, (dl.1 h).symm⟩, fun _ => by omega⟩
    · rw [if_neg h, ids_pos l id k]
      constructor
      · rintro ⟨j, hj, e⟩
        exact ⟨j, by omega, e⟩
      · rintro ⟨j, hj, e⟩
        refine ⟨j, ?_, e⟩
        by_cases hjk : j = k
        · subst hjk
          exact absurd (dl.2 e.symm) h
        · omega
theorem ids_zero (l : List S35) (id : ByteArray) : style_Check.ids l l.length id = 0 ↔ style_find.ix id l = none := by
  constructor
  · intro h
    cases hi : style_find.ix id l with
    | none => rfl
    | some m =>
      have := (ids_pos l id l.length).2 ⟨m, (ix_spec hi).1, (ix_spec hi).2.1⟩
      omega
  · intro h
    have h1 := ids_ge l id l.length
    have h2 : ¬ 0 < style_Check.ids l l.length id := fun hp => by
      obtain ⟨j, hj, e⟩ := (ids_pos l id l.length).1 hp
      exact ix_none h j hj e
    omega
/-! ### the first place -/
theorem first_step (q : Nat → Option (Int × Int)) (n k : Nat) (h : q k = none) : style_Check.first q (n + 1) k = style_Check.first q n (k + 1) := by rw [style_Check.first, h]
theorem first_hit (q : Nat → Option (Int × Int)) (n k : Nat) {r : Int × Int} (h : q k = some r) : style_Check.first q (n + 1) k = some r := by rw [style_Check.first, h]
theorem first_none (q : Nat → Option (Int × Int)) : ∀ (n k : Nat), style_Check.first q n k = none → ∀ j, k ≤ j → j < k + n → q j = none
  | 0, k, _, j, h1, h2 => by omega
  | n + 1, k, h, j, h1, h2 => by
    rw [style_Check.first] at h
    cases hk : q k with
    | some r => rw [hk] at h; cases h
    | none =>
      rw [hk] at h
      by_cases hj : j = k
      · rw [hj]; exact hk
      · exact first_none q n (k + 1) h j (by omega) (by omega)
theorem none_first (q : Nat → Option (Int × Int)) : ∀ (n k : Nat), (∀ j, k ≤ j → j < k + n → q j = none) → style_Check.first q n k = none
  | 0, k, _ => rfl
  | n + 1, k, h => by
    rw [first_step q n k (h k (Nat.le_refl _) (by omega))]
    exact none_first q n (k + 1) (fun j h1 h2 => h j (by omega) (by omega))
theorem first_at (q : Nat → Option (Int × Int)) (r : Int × Int) : ∀ (n k i : Nat), k ≤ i → i < k + n → (∀ j, k ≤ j → j < i → q j = none) → q i = some r → style_Check.first q n k = some r
  | 0, k, i, h1, h2, _, _ => by omega
  | n + 1, k, i, h1, h2, h3, h4 => by
    by_cases hi : k = i
    · subst hi; exact first_hit q n k h4
    · rw [first_step q n k (h3 k (Nat.le_refl _) (by omega))]
      exact first_at q r n (k + 1) i (by omega) (by omega) (fun j a b => h3 j (by omega) b) h4
/-! ### the first round: alone, and IDs that come twice -/
theorem q1_none {l : List S35} {k : Nat} (h : style_Check.q1 l k = none) : style_Check.alone (X l k) = false ∧ ∀ j, j < k → (X l j).f0 ≠ (X l k).f0 := by
  unfold style_Check.q1 at h
  by_cases ha : style_Check.alone (l.getD k z35) = true
  · rw [if_pos ha] at h; cases h
  rw [if_neg ha] at h
  by_cases hp : style_Check.ids l k (l.getD k z35).f0 > 0
  · rw [if_pos hp] at h; cases h
  exact ⟨by simpa [X] using ha, fun j hj e => hp ((ids_pos l _ k).2 ⟨j, hj, e⟩)⟩
/-- no ID comes twice -/
def Dist (l : List S35) : Prop := ∀ i, i < l.length → style_find.ix (X l i).f0 l = some i
/-- whatever something is based on is there -/
def Based (l : List S35) : Prop := ∀ k, k < l.length → ¬ (X l k).f1.toList = ([] : List UInt8) → ∃ m, style_find.ix (X l k).f1 l = some m
theorem q2_none {l : List S35} {k : Nat} : style_Check.q2 l k = none ↔ (¬ (X l k).f1.toList = ([] : List UInt8) → ∃ m, style_find.ix (X l k).f1 l = some m) := by
  unfold style_Check.q2
  constructor
  · intro h hne
    by_cases hi : style_find.ix (X l k).f1 l = none
    · rw [if_pos ⟨hne, (ids_zero l _).2 hi⟩] at h; cases h
    · cases hm : style_find.ix (X l k).f1 l with
      | none => exact absurd hm hi
      | some m => exact ⟨m, rfl⟩
  · intro h
    refine if_neg ?_
    rintro ⟨h1, h2⟩
    obtain ⟨m, hm⟩ := h h1
    have := (ids_zero l _).1 h2
    rw [X] at hm
    rw [hm] at this
    cases this
/-! ### from each style to that on which it is based -/
def nx (l : List S35) (k : Nat) : Option Nat := if (X l k).f1.toList = ([] : List UInt8) then none else style_find.ix (X l k).f1 l
def bad (l : List S35) (i x m : Nat) : Bool := (x == i) && ((X l m).f2 != (X l i).f2) || (m == i)
theorem nx_lt {l : List S35} {k m : Nat} (h : nx l k = some m) : m < l.length := by
  unfold nx at h
  split at h
  · cases h
  · exact (ix_spec h).1
theorem id_eq {l : List S35} (hD : Dist l) {i j : Nat} (hi : i < l.length) (hj : j < l.length) : ((X l j).f0.toList == (X l i).f0.toList) = (j == i) := by
  rw [Bool.eq_iff_iff, beq_iff_eq, beq_iff_eq, tl]
  constructor
  · intro e
    have h1 := hD j hj
    rw [e, hD i hi] at h1
    exact (Option.some.inj h1).symm
  · intro e; rw [e]
theorem based_go {l : List S35} (hD : Dist l) {i : Nat} (hi : i < l.length) : ∀ (f x : Nat), x < l.length → style_based.go l (X l i) f (X l x) = if gB (bad l i) (nx l) f x = true then 16 else 0
  | 0, x, hx => rfl
  | f + 1, x, hx => by
    rw [style_based.go, gB, nx]
    by_cases he : (X l x).f1.toList = ([] : List UInt8)
    · rw [if_pos he, if_pos he]
      rfl
    · rw [if_neg he, if_neg he, at_ix]
      cases hm : style_find.ix (X l x).f1 l with
      | none => rfl
      | some m =>
        have hml := (ix_spec hm).1
        show (if ((X l x).f0.toList == (X l i).f0.toList && (X l m).f2 != (X l i).f2 || (X l m).f0.toList == (X l i).f0.toList) = true then (16 : Int) else style_based.go l (X l i) f (X l m)) = if (if bad l i x m = true then true else gB (bad l i) (nx l) f m) = true then 16 else 0
        rw [id_eq hD hi hx, id_eq hD hi hml]
        by_cases hb : bad l i x m = true
        · rw [if_pos hb]
          unfold bad at hb
          rw [if_pos hb]
          rfl
        · rw [if_neg hb, based_go hD hi f m hml]
          unfold bad at hb
          rw [if_neg hb]
/-! ### the document's third round -/
theorem check3_l3 {l : List S35} (hl : l.length ≤ 1000000) (hF : Based l) {i : Nat} (hi : i < l.length) {R : Int × Int} (hR : Ev (fun k => rubricatorref14_Check.l2 k l ((i + 1 : Nat) : Int)) R) :
    ∀ (e n x : Nat), l.length + 2 = n + e + 1 → x < l.length → Ev (fun k => rubricatorref14_Check.l3 k l (i : Int) (x : Int) (n : Int)) (if gB (bad l i) (nx l) (e + 1) x = true then ((i : Int), 16) else R) := by
  intro e
  induction e with
  | zero =>
    intro n x hn hx
    refine ev_succ ?_
    simp only [rubricatorref14_Check.l3]
    refine ev_if (by omega) (ev_if (by omega) ?_)
    simp only [rd_X]
    rw [gB, nx]
    by_cases he : (X l x).f1.toList = ([] : List UInt8)
    · rw [if_pos he]
      refine ev_if he ?_
      rw [show wrap64 ((i : Int) + 1) = ((i + 1 : Nat) : Int) by unfold wrap64; omega]
      exact hR
    rw [if_neg he]
    refine ev_else he (Ev.bind (find_ev l _ hl) ?_)
    obtain ⟨m, hm⟩ := hF x hx he
    have hml := (ix_spec hm).1
    rw [hm]
    have h5 : ∀ b : Bool, Ev (fun k => rubricatorref14_Check.j5 k l (i : Int) (n : Int) (m : Int) b) (if b = true then ((i : Int), 16) else R) := by
      intro b
      refine ev_succ ?_
      simp only [rubricatorref14_Check.j5]
      cases b with
      | true => exact ev_if rfl (ev_val rfl)
      | false =>
        refine ev_else (by simp) (ev_if (by omega) ?_)
        rw [show wrap64 ((i : Int) + 1) = ((i + 1 : Nat) : Int) by unfold wrap64; omega]
        exact hR
    show Ev (fun k => if (x : Int) = (i : Int) then (if (0 : Int) ≤ (m : Int) then (if (m : Int) < (l.length : Int) then (if ((rd_T35 l (m : Int)).f2 != (X l x).f2) = true then rubricatorref14_Check.j5 k l (i : Int) (n : Int) (m : Int) true else rubricatorref14_Check.j5 k l (i : Int) (n : Int) (m : Int) ((m : Int) == (i : Int))) else none) else none) else rubricatorref14_Check.j5 k l (i : Int) (n : Int) (m : Int) ((m : Int) == (i : Int))) (if (if bad l i x m = true then true else gB (bad l i) (nx l) 0 m) = true then ((i : Int), 16) else R)
    have hmi : ((m : Int) == (i : Int)) = (m == i) := by rw [Bool.eq_iff_iff, beq_iff_eq, beq_iff_eq]; omega
    have hg : (if bad l i x m = true then true else gB (bad l i) (nx l) 0 m) = bad l i x m := by cases bad l i x m <;> rfl
    rw [hmi, hg]
    by_cases hxi : x = i
    · subst hxi
      refine ev_if rfl (ev_if (by omega) (ev_if (by omega) ?_))
      rw [rd_X]
      unfold bad
      rw [beq_self_eq_true, Bool.true_and]
      by_cases hr : ((X l m).f2 != (X l x).f2) = true
      · refine ev_if hr ?_
        rw [hr, Bool.true_or]
        exact h5 true
      · refine ev_else hr ?_
        rw [Bool.eq_false_iff.2 hr, Bool.false_or]
        exact h5 _
    · refine ev_else (by omega) ?_
      have : (x == i) = false := beq_eq_false_iff_ne.2 hxi
      unfold bad
      rw [this, Bool.false_and, Bool.false_or]
      exact h5 _
  | succ e ih =>
    intro n x hn hx
    refine ev_succ ?_
    simp only [rubricatorref14_Check.l3]
    refine ev_if (by omega) (ev_if (by omega) ?_)
    simp only [rd_X]
    rw [gB, nx]
    by_cases he : (X l x).f1.toList = ([] : List UInt8)
    · rw [if_pos he]
      refine ev_if he ?_
      rw [show wrap64 ((i : Int) + 1) = ((i + 1 : Nat) : Int) by unfold wrap64; omega]
      exact hR
    rw [if_neg he]
    refine ev_else he (Ev.bind (find_ev l _ hl) ?_)
    obtain ⟨m, hm⟩ := hF x hx he
    have hml := (ix_spec hm).1
    rw [hm]
    have h5 : ∀ b : Bool, Ev (fun k => rubricatorref14_Check.j5 k l (i : Int) (n : Int) (m : Int) b) (if (if b = true then true else gB (bad l i) (nx l) (e + 1) m) = true then ((i : Int), 16) else R) := by
      intro b
      refine ev_succ ?_
      simp only [rubricatorref14_Check.j5]
      cases b with
      | true => exact ev_if rfl (ev_val rfl)
      | false =>
        refine ev_else (by simp) (ev_else (by omega) ?_)
        rw [show wrap64 ((n : Int) + 1) = ((n + 1 : Nat) : Int) by unfold wrap64; omega]
        exact ih (n + 1) m (by omega) hml
    show Ev (fun k => if (x : Int) = (i : Int) then (if (0 : Int) ≤ (m : Int) then (if (m : Int) < (l.length : Int) then (if ((rd_T35 l (m : Int)).f2 != (X l x).f2) = true then rubricatorref14_Check.j5 k l (i : Int) (n : Int) (m : Int) true else rubricatorref14_Check.j5 k l (i : Int) (n : Int) (m : Int) ((m : Int) == (i : Int))) else none) else none) else rubricatorref14_Check.j5 k l (i : Int) (n : Int) (m : Int) ((m : Int) == (i : Int))) (if (if bad l i x m = true then true else gB (bad l i) (nx l) (e + 1) m) = true then ((i : Int), 16) else R)
    have hmi : ((m : Int) == (i : Int)) = (m == i) := by rw [Bool.eq_iff_iff, beq_iff_eq, beq_iff_eq]; omega
    rw [hmi]
    by_cases hxi : x = i
    · subst hxi
      refine ev_if rfl (ev_if (by omega) (ev_if (by omega) ?_))
      rw [rd_X]
      unfold bad
      rw [beq_self_eq_true, Bool.true_and]
      by_cases hr : ((X l m).f2 != (X l x).f2) = true
      · refine ev_if hr ?_
        rw [hr, Bool.true_or]
        exact h5 true
      · refine ev_else hr ?_
        rw [Bool.eq_false_iff.2 hr, Bool.false_or]
        exact h5 _
    · refine ev_else (by omega) ?_
      have : (x == i) = false := beq_eq_false_iff_ne.2 hxi
      unfold bad
      rw [this, Bool.false_and, Bool.false_or]
      exact h5 _
theorem q3_eq {l : List S35} (hD : Dist l) {i : Nat} (hi : i < l.length) : style_Check.q3 l i = if gB (bad l i) (nx l) l.length i = true then some ((i : Int), 16) else none := by
  unfold style_Check.q3
  have h := based_go hD hi l.length i hi
  unfold X at h
  rw [h]
  by_cases hg : gB (bad l i) (nx l) l.length i = true
  · rw [if_pos hg, if_pos hg]; rfl
  · rw [if_neg hg, if_neg hg]; rfl
def orElse (o : Option (Int × Int)) (r : Int × Int) : Int × Int := match o with
  | some x => x
  | none => r
theorem res_eq (l : List S35) : style_Check.res l = orElse (style_Check.first (style_Check.q1 l) l.length 0) (orElse (style_Check.first (style_Check.q2 l) l.length 0) (orElse (style_Check.first (style_Check.q3 l) l.length 0) (-1, 0))) := by
  unfold style_Check.res orElse
  cases style_Check.first (style_Check.q1 l) l.length 0 with
  | some r => rfl
  | none => cases style_Check.first (style_Check.q2 l) l.length 0 <;> rfl
theorem check3_ev {l : List S35} (hl : l.length ≤ 1000000) (hD : Dist l) (hF : Based l) : ∀ (e i : Nat), i + e = l.length → Ev (fun k => rubricatorref14_Check.l2 k l (i : Int)) (orElse (style_Check.first (style_Check.q3 l) e i) (-1, 0)) := by
  intro e
  induction e with
  | zero =>
    intro i hi
    refine ev_succ ?_
    simp only [rubricatorref14_Check.l2]
    exact ev_else (by omega) (ev_val rfl)
  | succ e ih =>
    intro i hi
    refine ev_succ ?_
    simp only [rubricatorref14_Check.l2]
    refine ev_if (by omega) ?_
    have h := check3_l3 hl hF (i := i) (by omega) (ih (i + 1) (by omega)) (l.length + 1) 0 i (by omega) (by omega)
    refine ev_is ?_ h
    rw [show l.length + 1 + 1 = l.length + 2 from rfl, gB_more (fun k m _ => nx_lt) (by omega) 2]
    have hq := q3_eq hD (i := i) (by omega)
    by_cases hg : gB (bad l i) (nx l) l.length i = true
    · rw [if_pos hg] at hq ⊢
      rw [first_hit _ _ _ hq]
      rfl
    · rw [if_neg hg] at hq ⊢
      rw [first_step _ _ _ hq]
theorem check2_ev {l : List S35} (hl : l.length ≤ 1000000) (hD : Dist l) : ∀ (e i : Nat), i + e = l.length → (∀ j, j < i → style_Check.q2 l j = none) →
    Ev (fun k => rubricatorref14_Check.l1 k l (i : Int)) (orElse (style_Check.first (style_Check.q2 l) e i) (orElse (style_Check.first (style_Check.q3 l) l.length 0) (-1, 0))) := by
  intro e
  induction e with
  | zero =>
    intro i hi hA
    refine ev_succ ?_
    simp only [rubricatorref14_Check.l1]
    exact ev_else (by omega) (check3_ev hl hD (fun k hk => q2_none.1 (hA k (by omega))) l.length 0 (by omega))
  | succ e ih =>
    intro i hi hA
    refine ev_succ ?_
    simp only [rubricatorref14_Check.l1]
    refine ev_if (by omega) (ev_if (by omega) ?_)
    simp only [rd_X]
    rw [show wrap64 ((i : Int) + 1) = ((i + 1 : Nat) : Int) by unfold wrap64; omega]
    have next : style_Check.q2 l i = none → Ev (fun k => rubricatorref14_Check.l1 k l ((i + 1 : Nat) : Int)) (orElse (style_Check.first (style_Check.q2 l) (e + 1) i) (orElse (style_Check.first (style_Check.q3 l) l.length 0) (-1, 0))) := by
      intro hq
      rw [first_step _ _ _ hq]
      refine ih (i + 1) (by omega) (fun j hj => ?_)
      by_cases hj2 : j = i
      · rw [hj2]; exact hq
      · exact hA j (by omega)
    by_cases he : (X l i).f1.toList = ([] : List UInt8)
    · exact ev_if he (next (q2_none.2 (fun h => absurd he h)))
    refine ev_else he (Ev.bind (find_ev l _ hl) ?_)
    cases hm : style_find.ix (X l i).f1 l with
    | some m =>
      refine ev_else (by show ¬ (m : Int) < 0; omega) (next (q2_none.2 (fun _ => ⟨m, hm⟩)))
    | none =>
      refine ev_if (by decide) (ev_val ?_)
      have hq : style_Check.q2 l i = some ((i : Int), 7) := if_pos ⟨he, (ids_zero l _).2 hm⟩
      rw [first_hit _ _ _ hq]
      rfl
theorem check1_ev {l : List S35} (hl : l.length ≤ 1000000) : ∀ (e i : Nat), i + e = l.length → (∀ j, j < i → style_Check.q1 l j = none) →
    Ev (fun k => rubricatorref14_Check.l0 k l (i : Int)) (orElse (style_Check.first (style_Check.q1 l) e i) (orElse (style_Check.first (style_Check.q2 l) l.length 0) (orElse (style_Check.first (style_Check.q3 l) l.length 0) (-1, 0)))) := by
  intro e
  induction e with
  | zero =>
    intro i hi hA
    refine ev_succ ?_
    simp only [rubricatorref14_Check.l0]
    refine ev_else (by omega) (check2_ev hl ?_ l.length 0 (by omega) (fun j hj => absurd hj (Nat.not_lt_zero _)))
    intro k hk
    exact ix_of hk rfl (q1_none (hA k (by omega))).2
  | succ e ih =>
    intro i hi hA
    refine ev_succ ?_
    simp only [rubricatorref14_Check.l0]
    refine ev_if (by omega) (ev_if (by omega) ?_)
    simp only [rd_X]
    have h1 : ∀ b : Bool, b = style_Check.alone (X l i) → Ev (fun k => rubricatorref14_Check.j1 k l (i : Int) b (X l i).f0 (X l i).f1 (X l i).f2 (X l i).f3 (X l i).f4 (X l i).f5) (orElse (style_Check.first (style_Check.q1 l) (e + 1) i) (orElse (style_Check.first (style_Check.q2 l) l.length 0) (orElse (style_Check.first (style_Check.q3 l) l.length 0) (-1, 0)))) := by
      intro b hb
      refine ev_succ ?_
      simp only [rubricatorref14_Check.j1]
      by_cases hbt : b = true
      · refine ev_if hbt (ev_val ?_)
        have hq : style_Check.q1 l i = some ((i : Int), 1) := if_pos (hb ▸ hbt)
        rw [first_hit _ _ _ hq]
        rfl
      refine ev_else hbt (Ev.bind (find_ev l _ hl) ?_)
      have hna : ¬ style_Check.alone (l.getD i z35) = true := by
        show ¬ style_Check.alone (X l i) = true
        rw [← hb]; exact hbt
      obtain ⟨m, hm⟩ : ∃ m, style_find.ix (X l i).f0 l = some m := by
        cases hm : style_find.ix (X l i).f0 l with
        | none => exact absurd rfl (ix_none hm i (by omega))
        | some m => exact ⟨m, rfl⟩
      rw [hm]
      obtain ⟨hm1, hm2, hm3⟩ := ix_spec hm
      show Ev (fun k => if (m : Int) < (i : Int) then some ((i : Int), (8 : Int)) else rubricatorref14_Check.l0 k l (wrap64 ((i : Int) + 1))) _
      by_cases hlt : m < i
      · refine ev_if (by omega) (ev_val ?_)
        have hq : style_Check.q1 l i = some ((i : Int), 8) := by
          unfold style_Check.q1
          rw [if_neg hna, if_pos ((ids_pos l (l.getD i z35).f0 i).2 ⟨m, hlt, hm2⟩)]
        rw [first_hit _ _ _ hq]
        rfl
      · refine ev_else (by omega) ?_
        have hq : style_Check.q1 l i = none := by
          unfold style_Check.q1
          rw [if_neg hna, if_neg]
          intro hp
          obtain ⟨j, hj, hj2⟩ := (ids_pos l _ i).1 hp
          exact hm3 j (by omega) hj2
        rw [first_step _ _ _ hq, show wrap64 ((i : Int) + 1) = ((i + 1 : Nat) : Int) by unfold wrap64; omega]
        refine ih (i + 1) (by omega) (fun j hj => ?_)
        by_cases hj2 : j = i
        · rw [hj2]; exact hq
        · exact hA j (by omega)
    unfold style_Check.alone style_alone.f at h1
    by_cases c0 : (X l i).f0.toList = ([] : List UInt8)
    · exact ev_if c0 (h1 true (by rw [if_pos c0]))
    refine ev_else c0 ?_
    rw [if_neg c0] at h1
    by_cases c1 : (X l i).f3 < 0
    · exact ev_if c1 (h1 true (by rw [if_pos c1]))
    refine ev_else c1 ?_
    rw [if_neg c1] at h1
    by_cases c2 : (X l i).f3 > 2
    · exact ev_if c2 (h1 true (by rw [if_pos c2]))
    refine ev_else c2 ?_
    rw [if_neg c2] at h1
    by_cases c3 : (X l i).f4 < 0
    · exact ev_if c3 (h1 true (by rw [if_pos c3]))
    refine ev_else c3 ?_
    rw [if_neg c3] at h1
    by_cases c4 : (X l i).f4 > 2
    · exact ev_if c4 (h1 true (by rw [if_pos c4]))
    refine ev_else c4 ?_
    rw [if_neg c4] at h1
    by_cases c5 : (X l i).f5 < 0
    · exact ev_if c5 (h1 true (by rw [if_pos c5]))
    refine ev_else c5 ?_
    rw [if_neg c5] at h1
    by_cases c6 : (X l i).f5 > 6
    · exact ev_if c6 (h1 true (by rw [if_pos c6]))
    refine ev_else c6 ?_
    rw [if_neg c6] at h1
    by_cases c7 : (X l i).f2 = true
    · refine ev_if c7 (h1 ((X l i).f5 != 0) ?_)
      rw [if_pos c7]
      show ((X l i).f5 != 0) = decide ((X l i).f5 > 0)
      rw [Bool.eq_iff_iff, bne_iff_ne, decide_eq_true_iff]
      omega
    · exact ev_else c7 (h1 false (by rw [if_neg c7]))
/-- the document's Check -/
theorem check_ev (l : List S35) (hl : l.length ≤ 1000000) : Ev (fun k => rubricatorref14_Check.f k l) (style_Check.res l) := by
  rw [res_eq]
  exact check1_ev hl l.length 0 (by omega) (fun j hj => absurd hj (Nat.not_lt_zero _))
/-- what an answer without a fault says of the styles -/
theorem res_ok {l : List S35} (h : (style_Check.res l).2 = 0) : style_Check.res l = (-1, 0) ∧ Dist l ∧ Based l ∧ ∀ i, i < l.length → gB (bad l i) (nx l) l.length i = false := by
  rw [res_eq] at h ⊢
  cases h1 : style_Check.first (style_Check.q1 l) l.length 0 with
  | some r =>
    exfalso
    rw [h1] at h
    replace h : r.2 = 0 := h
    have : ∀ n k, style_Check.first (style_Check.q1 l) n k = some r → False := by
      intro n
      induction n with
      | zero => intro k e; cases e
      | succ n ih =>
        intro k e
        cases hk : style_Check.q1 l k with
        | none => rw [first_step _ _ _ hk] at e; exact ih _ e
        | some r2 =>
          rw [first_hit _ _ _ hk] at e
          obtain rfl := Option.some.inj e
          unfold style_Check.q1 at hk
          split at hk
          · obtain rfl := Option.some.inj hk; exact absurd (show (1 : Int) = 0 from h) (by decide)
          · split at hk
            · obtain rfl := Option.some.inj hk; exact absurd (show (8 : Int) = 0 from h) (by decide)
            · cases hk
    exact this _ _ h1
  | none =>
  rw [h1] at h
  replace h : (orElse (style_Check.first (style_Check.q2 l) l.length 0) (orElse (style_Check.first (style_Check.q3 l) l.length 0) (-1, 0))).2 = 0 := h
  show orElse (style_Check.first (style_Check.q2 l) l.length 0) (orElse (style_Check.first (style_Check.q3 l) l.length 0) (-1, 0)) = (-1, 0) ∧ _
  have hD : Dist l := fun k hk => ix_of hk rfl (q1_none (first_none _ _ _ h1 k (Nat.zero_le _) (by omega))).2
  cases h2 : style_Check.first (style_Check.q2 l) l.length 0 with
  | some r =>
    exfalso
    rw [h2] at h
    replace h : r.2 = 0 := h
    have : ∀ n k, style_Check.first (style_Check.q2 l) n k = some r → False := by
      intro n
      induction n with
      | zero => intro k e; cases e
      | succ n ih =>
        intro k e
        cases hk : style_Check.q2 l k with
        | none => rw [first_step _ _ _ hk] at e; exact ih _ e
        | some r2 =>
          rw [first_hit _ _ _ hk] at e
          obtain rfl := Option.some.inj e
          unfold style_Check.q2 at hk
          split at hk
          · obtain rfl := Option.some.inj hk; exact absurd (show (7 : Int) = 0 from h) (by decide)
          · cases hk
    exact this _ _ h2
  | none =>
  rw [h2] at h
  replace h : (orElse (style_Check.first (style_Check.q3 l) l.length 0) (-1, 0)).2 = 0 := h
  show orElse (style_Check.first (style_Check.q3 l) l.length 0) (-1, 0) = (-1, 0) ∧ _
  have hF : Based l := fun k hk => q2_none.1 (first_none _ _ _ h2 k (Nat.zero_le _) (by omega))
  cases h3 : style_Check.first (style_Check.q3 l) l.length 0 with
  | some r =>
    exfalso
    rw [h3] at h
    replace h : r.2 = 0 := h
    have : ∀ n k, style_Check.first (style_Check.q3 l) n k = some r → False := by
      intro n
      induction n with
      | zero => intro k e; cases e
      | succ n ih =>
        intro k e
        cases hk : style_Check.q3 l k with
        | none => rw [first_step _ _ _ hk] at e; exact ih _ e
        | some r2 =>
          rw [first_hit _ _ _ hk] at e
          obtain rfl := Option.some.inj e
          unfold style_Check.q3 at hk
          split at hk
          · rename_i hne
            obtain rfl := Option.some.inj hk
            exact hne h
          · cases hk
    exact this _ _ h3
  | none =>
    refine ⟨rfl, hD, hF, fun i hi => ?_⟩
    have hq := first_none _ _ _ h3 i (Nat.zero_le _) (by omega)
    rw [q3_eq hD hi] at hq
    by_cases hg : gB (bad l i) (nx l) l.length i = true
    · rw [if_pos hg] at hq; cases hq
    · exact Bool.eq_false_iff.2 hg
/-- and the other way round -/
theorem ok_res {l : List S35} (hA : ∀ i, i < l.length → style_Check.alone (X l i) = false) (hD : Dist l) (hF : Based l) (hG : ∀ i, i < l.length → gB (bad l i) (nx l) l.length i = false) : style_Check.res l = (-1, 0) := by
  rw [res_eq, none_first, none_first, none_first]
  · rfl
  · intro j _ hj
    rw [q3_eq hD (by omega), hG j (by omega)]
    rfl
  · intro j _ hj
    exact q2_none.2 (hF j (by omega))
  · intro j _ hj
    unfold style_Check.q1
    have h1 := hA j (by omega)
    unfold X at h1
    rw [h1, if_neg (by simp), if_neg]
    intro hp
    obtain ⟨m, hm, e⟩ := (ids_pos l _ j).1 hp
    have h2 := hD j (by omega)
    have h3 := hD m (by omega)
    rw [e] at h3
    rw [X] at h2
    rw [h2] at h3
    have := Option.some.inj h3
    omega
/-- no chain comes back -/
theorem ends_of {l : List S35} (hG : ∀ i, i < l.length → gB (bad l i) (nx l) l.length i = false) {k : Nat} (hk : k < l.length) : it (nx l) l.length k = none := by
  refine ends (fun a m _ h => nx_lt h) (fun i hi t ht e => ?_) hk
  have h1 := hG i hi
  have h2 : gB (bad l i) (nx l) l.length i = true := by
    rw [gB_iff]
    rw [it_add] at e
    cases ha : it (nx l) t i with
    | none => rw [ha] at e; cases e
    | some a =>
      rw [ha] at e
      replace e : it (nx l) 1 a = some i := e
      rw [it_one] at e
      refine ⟨t, ht, a, i, ha, e, ?_⟩
      unfold bad
      rw [beq_self_eq_true, Bool.or_true]
  rw [h1] at h2
  cases h2
end Go.Proofs.YtahgfbficidjlaaDoor.Sty
