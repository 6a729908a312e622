/- What any styles come to: the document's says, Run and Level are the program's. Plain law; the conditions are those that each theorem says. -/
import Derived.Test.YtahgfbficidjlaaDoorPAx6
import Derived.Test.YtahgfbficidjlaaDoorSty
namespace Go.Proofs.YtahgfbficidjlaaDoor.Say
open Go.RowKit Go.Proofs.YtahgfbficidjlaaDoor.PA Go.Proofs.YtahgfbficidjlaaDoorW.PrintWords Go.Proofs.YtahgfbficidjlaaDoorW.PrintLast Go.Proofs.YtahgfbficidjlaaDoorAid Go.Proofs.YtahgfbficidjlaaDoorChain Go.Proofs.YtahgfbficidjlaaDoor.Sty
set_option linter.unusedVariables false
set_option linter.unusedSimpArgs false

def sV (l : List S35) (what : S35 → Int) (f k : Nat) : Int := sG (fun k => what (X l k)) (nx l) f k
/-- what the styles say of one thing, for a name -/
def sayV (l : List S35) (what : S35 → Int) (id : ByteArray) (run : Bool) : Int := if id.toList = ([] : List UInt8) then 0 else match style_find.ix id l with
  | none => 0
  | some k => if ((X l k).f2 != run) = true then 0 else sV l what l.length k
theorem says_go {l : List S35} (hF : Based l) (what : S35 → Int) : ∀ (f x : Nat), x < l.length → style_says.go l what f (X l x) = some (sV l what f x)
  | 0, x, hx => rfl
  | f + 1, x, hx => by
    rw [style_says.go, sV, sG]
    by_cases hw : what (X l x) ≠ 0
    · rw [if_pos (Or.inl hw), if_pos hw]
    rw [if_neg hw, nx]
    by_cases he : (X l x).f1.toList = ([] : List UInt8)
    · rw [if_pos (Or.inr he), if_pos he]
      rw [Decidable.not_not.1 hw]
    · rw [if_neg (fun h => h.elim hw he), if_neg he, at_ix]
      obtain ⟨m, hm⟩ := hF x hx he
      rw [hm]
      exact says_go hF what f m (ix_spec hm).1
theorem says_f {l : List S35} (hl : l.length ≤ 1000000) (hF : Based l) (what : S35 → Int) (id : ByteArray) (run : Bool) : style_says.f l id run what = some (sayV l what id run) := by
  unfold style_says.f sayV
  rw [if_pos hl]
  by_cases he : id.toList = ([] : List UInt8)
  · rw [if_pos he, if_pos he]
  rw [if_neg he, if_neg he, at_ix]
  cases hm : style_find.ix id l with
  | none => rfl
  | some k =>
    show (if ((X l k).f2 != run) = true then some 0 else style_says.go l what l.length (X l k)) = some (if ((X l k).f2 != run) = true then 0 else sV l what l.length k)
    by_cases hr : ((X l k).f2 != run) = true
    · rw [if_pos hr, if_pos hr]
    · rw [if_neg hr, if_neg hr, says_go hF what _ k (ix_spec hm).1]
/-- what is answered behind a place, when so much has been said -/
def on (l : List S35) (what : S35 → Int) (f x : Nat) (e : Int) : Int := if e = 0 then (match nx l x with
  | none => 0
  | some m => sV l what f m) else e
theorem on_step (l : List S35) (what : S35 → Int) (f x : Nat) (e : Int) : (if e = 0 then sV l what (f + 1) x else e) = on l what f x (if e = 0 then what (X l x) else e) := by
  unfold on
  by_cases he : e = 0
  · rw [if_pos he, if_pos he, sV, sG]
    by_cases hw : what (X l x) = 0
    · rw [if_neg (by rw [hw]; simp), if_pos hw]
      cases nx l x <;> rfl
    · rw [if_pos hw, if_neg hw]
  · rw [if_neg he, if_neg he, if_neg he]
theorem on_none {l : List S35} {what : S35 → Int} {f x : Nat} {e : Int} (h : nx l x = none) : on l what f x e = e := by
  unfold on
  rw [h]
  split <;> simp_all
theorem on_some {l : List S35} {what : S35 → Int} {f x m : Nat} {e : Int} (h : nx l x = some m) : on l what f x e = if e = 0 then sV l what f m else e := by
  unfold on
  rw [h]
theorem it_next {n : Nat → Option Nat} {f x m : Nat} (h : it n (f + 1) x = none) (hm : n x = some m) : it n f m = none := by
  replace h : (n x).bind (it n f) = none := h
  rw [hm] at h
  exact h
theorem says_l0 {l : List S35} (hl : l.length ≤ 1000000) (hF : Based l) : ∀ (f x : Nat), x < l.length → it (nx l) f x = none → ∀ e b : Int,
    Ev (fun k => rubricatorref14_says.l0 k l (x : Int) e b) (if e = 0 then sV l (·.f3) f x else e, if b = 0 then sV l (·.f4) f x else b)
  | 0, x, hx, h, e, b => by cases h
  | f + 1, x, hx, h, e, b => by
    rw [on_step, on_step]
    have h2 : ∀ e1 : Int, Ev (fun k => rubricatorref14_says.j2 k l (x : Int) e1 b) (on l (·.f3) f x e1, on l (·.f4) f x (if b = 0 then (X l x).f4 else b)) := by
      intro e1
      refine ev_succ ?_
      simp only [rubricatorref14_says.j2]
      have h3 : ∀ b1 : Int, Ev (fun k => if (0 : Int) ≤ (x : Int) then (if (x : Int) < (l.length : Int) then (if ((X l x).f1).toList = ([] : List UInt8) then some (e1, b1) else (rubricatorref14_Find.f k l (X l x).f1).bind fun t => rubricatorref14_says.l0 k l t e1 b1) else none) else none) (on l (·.f3) f x e1, on l (·.f4) f x b1) := by
        intro b1
        refine ev_if (by omega) (ev_if (by omega) ?_)
        by_cases he : (X l x).f1.toList = ([] : List UInt8)
        · have hn : nx l x = none := if_pos he
          rw [on_none hn, on_none hn]
          exact ev_if he (ev_val rfl)
        · obtain ⟨m, hm⟩ := hF x hx he
          have hn : nx l x = some m := (if_neg he).trans hm
          rw [on_some hn, on_some hn]
          refine ev_else he (Ev.bind (find_ev l _ hl) ?_)
          rw [hm]
          exact says_l0 hl hF f m (ix_spec hm).1 (it_next h hn) e1 b1
      by_cases hb : b = 0
      · refine ev_if hb ?_
        rw [if_pos hb]
        exact h3 _
      · refine ev_else hb ?_
        rw [if_neg hb]
        exact h3 _
    refine ev_succ ?_
    simp only [rubricatorref14_says.l0]
    by_cases he : e = 0
    · rw [if_pos he]
      exact ev_if he (ev_if (by omega) (ev_if (by omega) (h2 _)))
    · rw [if_neg he]
      exact ev_else he (h2 _)
theorem ret_none : style_find.ret none = -1 := rfl
theorem says_ev {l : List S35} (hl : l.length ≤ 1000000) (hF : Based l) (hE : ∀ k, k < l.length → it (nx l) l.length k = none) (id : ByteArray) (run : Bool) :
    Ev (fun k => rubricatorref14_says.f k l id run) (sayV l (·.f3) id run, sayV l (·.f4) id run) := by
  unfold rubricatorref14_says.f sayV
  refine Ev.bind (find_ev l _ hl) ?_
  have h1 : ∀ t : Int, Ev (fun k => rubricatorref14_says.j0 k l t true) (0, 0) := by
    intro t
    refine ev_succ ?_
    simp only [rubricatorref14_says.j0]
    exact ev_if (by first | rfl | trivial) (ev_val rfl)
  by_cases he : id.toList = ([] : List UInt8)
  · rw [if_pos he, if_pos he]
    exact ev_if he (h1 _)
  rw [if_neg he, if_neg he]
  refine ev_else he ?_
  cases hm : style_find.ix id l with
  | none => exact ev_if (by decide) (h1 _)
  | some m =>
    have hml := (ix_spec hm).1
    refine ev_else (by show ¬ (m : Int) < 0; omega) (ev_if (by show (0 : Int) ≤ (m : Int); omega) (ev_if (by show (m : Int) < (l.length : Int); omega) ?_))
    show Ev (fun k => rubricatorref14_says.j0 k l (m : Int) ((X l m).f2 != run)) (if ((X l m).f2 != run) = true then 0 else sV l (·.f3) l.length m, if ((X l m).f2 != run) = true then 0 else sV l (·.f4) l.length m)
    by_cases hr : ((X l m).f2 != run) = true
    · rw [if_pos hr, if_pos hr, hr]
      exact h1 _
    · rw [if_neg hr, if_neg hr, Bool.eq_false_iff.2 hr]
      refine ev_succ ?_
      simp only [rubricatorref14_says.j0]
      refine ev_else (by simp) ?_
      exact says_l0 hl hF _ m hml (hE m hml) 0 0
theorem level_l0 {l : List S35} (hl : l.length ≤ 1000000) (hF : Based l) : ∀ (f x : Nat), x < l.length → it (nx l) f x = none → Ev (fun k => rubricatorref14_Level.l0 k l (x : Int)) (sV l (·.f5) f x)
  | 0, x, hx, h => by cases h
  | f + 1, x, hx, h => by
    refine ev_succ ?_
    simp only [rubricatorref14_Level.l0]
    refine ev_if (by omega) (ev_if (by omega) ?_)
    simp only [rd_X]
    rw [sV, sG]
    by_cases hw : (X l x).f5 = 0
    · rw [if_neg (by rw [hw]; simp)]
      refine ev_if hw ?_
      by_cases he : (X l x).f1.toList = ([] : List UInt8)
      · have hn : nx l x = none := if_pos he
        rw [hn]
        exact ev_if he (ev_val hw)
      · obtain ⟨m, hm⟩ := hF x hx he
        have hn : nx l x = some m := (if_neg he).trans hm
        rw [hn]
        refine ev_else he (Ev.bind (find_ev l _ hl) ?_)
        rw [hm]
        exact level_l0 hl hF f m (ix_spec hm).1 (it_next h hn)
    · rw [if_pos hw]
      exact ev_else hw (ev_val rfl)
/-- a heading's level -/
def lvl (l : List S35) (id : ByteArray) : Int := if (style_Check.res l).2 = 0 then sayV l (·.f5) id false else 0
def Small (l : List S35) : Prop := l.length ≤ 1000000 ∧ ∀ s ∈ l, s.f0.size ≤ 140737488351232 ∧ s.f1.size ≤ 140737488351232
theorem check_f {l : List S35} (h : Small l) : style_Check.f l = some (style_Check.res l) := by
  unfold style_Check.f
  rw [if_pos h.1, if_pos]
  rw [List.all_eq_true]
  intro s hs
  obtain ⟨h1, h2⟩ := h.2 s hs
  rw [decide_eq_true h1, decide_eq_true h2]
  rfl
theorem level_f {l : List S35} (h : Small l) (id : ByteArray) : style_Level.f l id = some (lvl l id) := by
  unfold style_Level.f lvl
  rw [check_f h]
  show (if (style_Check.res l).2 = 0 then style_says.f l id false (fun x => x.f5) else some 0) = _
  by_cases h0 : (style_Check.res l).2 = 0
  · rw [if_pos h0, if_pos h0]
    exact says_f h.1 (res_ok h0).2.2.1 _ _ _
  · rw [if_neg h0, if_neg h0]
theorem level_ev {l : List S35} (hl : l.length ≤ 1000000) (id : ByteArray) : Ev (fun k => rubricatorref14_Level.f k l id) (lvl l id) := by
  unfold rubricatorref14_Level.f lvl
  refine Ev.bind (check_ev l hl) (Ev.bind (find_ev l _ hl) ?_)
  have h1 : ∀ t : Int, Ev (fun k => rubricatorref14_Level.j0 k l t true) 0 := by
    intro t
    refine ev_succ ?_
    simp only [rubricatorref14_Level.j0]
    exact ev_if (by first | rfl | trivial) (ev_val rfl)
  by_cases h0 : (style_Check.res l).2 = 0
  · rw [if_pos h0]
    refine ev_if h0 ?_
    obtain ⟨_, hD, hF, hG⟩ := res_ok h0
    unfold sayV
    by_cases he : id.toList = ([] : List UInt8)
    · rw [if_pos he]
      exact ev_if he (h1 _)
    rw [if_neg he]
    refine ev_else he ?_
    cases hm : style_find.ix id l with
    | none => exact ev_if (by decide) (h1 _)
    | some m =>
      have hml := (ix_spec hm).1
      refine ev_else (by show ¬ (m : Int) < 0; omega) (ev_if (by show (0 : Int) ≤ (m : Int); omega) (ev_if (by show (m : Int) < (l.length : Int); omega) ?_))
      show Ev (fun k => rubricatorref14_Level.j0 k l (m : Int) (X l m).f2) (if ((X l m).f2 != false) = true then 0 else sV l (·.f5) l.length m)
      rw [Bool.bne_false]
      by_cases hr : (X l m).f2 = true
      · rw [if_pos hr, hr]
        exact h1 _
      · rw [if_neg hr, Bool.eq_false_iff.2 hr]
        refine ev_succ ?_
        simp only [rubricatorref14_Level.j0]
        refine ev_else (by simp) ?_
        exact level_l0 hl hF _ m hml (ends_of hG hml)
  · rw [if_neg h0]
    exact ev_else h0 (h1 _)
/-- whether something is on -/
def tog (l : List S35) (p o : ByteArray) (d : Int) (what : S35 → Int) : Bool := if d = 1 then true else if d = 0 then (decide (sayV l what p false = 1) != decide (sayV l what o true = 1)) else false
/-- a run's styles -/
def runV (l : List S35) (p o : ByteArray) (e b : Int) : Int := if (style_Check.res l).2 = 0 then (if tog l p o e (·.f3) = true then 1 else 0) + (if tog l p o b (·.f4) = true then 2 else 0) else 0
theorem run_f {l : List S35} (h : Small l) (p o : ByteArray) (e b : Int) : style_Run.f l p o e b = some (runV l p o e b) := by
  unfold style_Run.f runV
  rw [check_f h]
  show (if (style_Check.res l).2 = 0 then ((style_toggled.f l p o e (fun x => x.f3)).bind fun x => (style_toggled.f l p o b (fun x => x.f4)).bind fun y => some ((if x = true then 1 else 0) + (if y = true then 2 else 0))) else some 0) = _
  by_cases h0 : (style_Check.res l).2 = 0
  · rw [if_pos h0, if_pos h0]
    have hF := (res_ok h0).2.2.1
    have ht : ∀ (d : Int) (what : S35 → Int), style_toggled.f l p o d what = some (tog l p o d what) := by
      intro d what
      unfold style_toggled.f tog
      rw [says_f h.1 hF, says_f h.1 hF]
      rfl
    rw [ht, ht]
    rfl
  · rw [if_neg h0, if_neg h0]
theorem on_f {l : List S35} (p o : ByteArray) (d : Int) (what : S35 → Int) : rubricatorref14_on.f d (sayV l what p false) (sayV l what o true) = some (tog l p o d what) := by
  unfold rubricatorref14_on.f tog
  by_cases h1 : d = 1
  · rw [if_pos h1, if_pos h1]
  rw [if_neg h1, if_neg h1]
  by_cases h2 : d = 0
  · rw [if_pos h2, if_pos h2]
    rfl
  · rw [if_neg h2, if_neg h2]
theorem run_ev {l : List S35} (hl : l.length ≤ 1000000) (p o : ByteArray) (e b : Int) : Ev (fun k => rubricatorref14_Run.f k l p o e b) (runV l p o e b) := by
  unfold rubricatorref14_Run.f runV
  refine Ev.bind (check_ev l hl) ?_
  by_cases h0 : (style_Check.res l).2 = 0
  · rw [if_pos h0]
    refine ev_if h0 ?_
    obtain ⟨_, hD, hF, hG⟩ := res_ok h0
    have hE : ∀ k, k < l.length → it (nx l) l.length k = none := fun k hk => ends_of hG hk
    refine Ev.bind (says_ev hl hF hE p false) (Ev.bind (says_ev hl hF hE o true) (Ev.bind (ev_const (on_f p o e (·.f3))) ?_))
    by_cases hx : tog l p o e (·.f3) = true
    · refine ev_if hx (Ev.bind (ev_const (on_f p o b (·.f4))) ?_)
      rw [if_pos hx]
      by_cases hy : tog l p o b (·.f4) = true
      · exact ev_if hy (ev_val (by rw [if_pos hy]; rfl))
      · exact ev_else hy (ev_val (by rw [if_neg hy]; rfl))
    · refine ev_else hx (Ev.bind (ev_const (on_f p o b (·.f4))) ?_)
      rw [if_neg hx]
      by_cases hy : tog l p o b (·.f4) = true
      · exact ev_if hy (ev_val (by rw [if_pos hy]))
      · exact ev_else hy (ev_val (by rw [if_neg hy]; rfl))
  · rw [if_neg h0]
    exact ev_else h0 (ev_val rfl)
/-! ### two rows of styles that are one -/
theorem styles_same (l : List S35) (hl : l.length ≤ 1000000) : ∀ (e i : Nat), l.length ≤ i + e → i ≤ l.length → Ev (fun k => rubricatorlaw14_styles.l0 k l l (i : Int)) true := by
  intro e
  induction e with
  | zero =>
    intro i h1 h2
    refine ev_succ ?_
    simp only [rubricatorlaw14_styles.l0]
    exact ev_else (by omega) (ev_val rfl)
  | succ e ih =>
    intro i h1 h2
    by_cases hi : i = l.length
    · subst hi
      exact ih _ (by omega) h2
    refine ev_succ ?_
    simp only [rubricatorlaw14_styles.l0]
    refine ev_if (by omega) (ev_if (by omega) (ev_if (by omega) (ev_else (by simp) ?_)))
    rw [show wrap64 ((i : Int) + 1) = ((i + 1 : Nat) : Int) by unfold wrap64; omega]
    exact ih (i + 1) (by omega) (by omega)
theorem styles_ev (l : List S35) (hl : l.length ≤ 1000000) : Ev (fun k => rubricatorlaw14_styles.f k l l) true := by
  unfold rubricatorlaw14_styles.f
  exact ev_if rfl (styles_same l hl l.length 0 (by omega) (Nat.zero_le _))
/-! ### styles that are based on lower ones -/
theorem gB_rank {l : List S35} (r : Nat → Nat) (hr : ∀ k m, nx l k = some m → r m < r k) (hf : ∀ k m, nx l k = some m → (X l m).f2 = (X l k).f2) (i f : Nat) : gB (bad l i) (nx l) f i = false := by
  refine Bool.eq_false_iff.2 (fun h => ?_)
  obtain ⟨t, _, a, m, h1, h2, h3⟩ := (gB_iff _ _ _ _).1 h
  have hle : ∀ (t x y : Nat), it (nx l) t x = some y → r y ≤ r x := by
    intro t
    induction t with
    | zero => intro x y e; cases e; exact Nat.le_refl _
    | succ t ih =>
      intro x y e
      replace e : (nx l x).bind (it (nx l) t) = some y := e
      cases hn : nx l x with
      | none => rw [hn] at e; cases e
      | some z =>
        rw [hn] at e
        have := ih z y e
        have := hr x z hn
        omega
  unfold bad at h3
  rw [Bool.or_eq_true, Bool.and_eq_true, beq_iff_eq, beq_iff_eq, bne_iff_ne] at h3
  rcases h3 with ⟨rfl, h3⟩ | rfl
  · exact h3 (hf _ _ h2)
  · have := hle _ _ _ h1
    have := hr _ _ h2
    omega
theorem sG_zero {nxt : Nat → Option Nat} {w : Nat → Int} (h : ∀ k, w k = 0) : ∀ f k, sG w nxt f k = 0
  | 0, k => rfl
  | f + 1, k => by
    rw [sG, if_neg (by rw [h k]; simp)]
    cases nxt k with
    | none => rfl
    | some m => exact sG_zero h f m
end Go.Proofs.YtahgfbficidjlaaDoor.Say
