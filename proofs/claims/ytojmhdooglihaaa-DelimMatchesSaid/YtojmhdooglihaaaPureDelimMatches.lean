/- Of any marks the pairs, in order, are the document's. No conditions. -/
import Derived.Test.YtojmhdooglihaaaPAx0
import Derived.Test.YtojmhdooglihaaaPAx4
import Derived.Test.YtojmhdooglihaaaPAx6
import Derived.Test.YtojmhdooglihaaaPAx7
import Derived.Test.YtojmhdooglihaaaHeavy
import Derived.Test.YtojmhdooglihaaaRefTheory
import Derived.Test.YtojmhdooglihaaaKnown
import Derived.Test.YtojmhdooglihaaaFew
namespace Go.Proofs.Ytojmhdooglihaaa.Pure
open Go.RowKit Go.Proofs.Ytojmhdooglihaaa.PA Go.Proofs.YtojmhdooglihaaaW.PrintWords Go.Proofs.YtojmhdooglihaaaW.PrintLast
open Go.Proofs.YtojmhdooglihaaaAid Go.Proofs.Ytojmhdooglihaaa.Theory
set_option linter.unusedVariables false
theorem rd34_map (ps : List S33) (i : Nat) (h : i < ps.length) : rd_T34 (ps.map c34) (i : Int) = c34 ps[i] := by simp [rd_T34, List.getD_eq_getElem?_getD, List.getElem?_eq_getElem h]
theorem ml0_ev (l : List S27) (hl : l.length ≤ 300) {r : Bool} (h : Ev (fun k => (delim_Match.f k l).bind fun t => (rubricatorref20_Match.f k (l.map c26)).bind fun u => if (t.length : Int) = (u.length : Int) then rubricatorlaw20_DelimMatches.l1 k t u 0 else some false) r) :
    ∀ d i : Nat, i + d = l.length → Ev (fun k => rubricatorlaw20_DelimMatches.l0 k l ((l.take i).map c26) (i : Int)) r := by
  intro d
  induction d with
  | zero =>
    intro i hi
    have e : (l.take i).map c26 = l.map c26 := by rw [List.take_of_length_le (by omega)]
    refine ev_succ ?_
    simp only [rubricatorlaw20_DelimMatches.l0]
    refine ev_else (by omega) (ev_some (ev_if (by simp; omega) ?_))
    rw [e]
    exact h
  | succ d ih =>
    intro i hi
    have hil : i < l.length := by omega
    refine ev_succ ?_
    simp only [rubricatorlaw20_DelimMatches.l0]
    refine ev_if (by omega) (ev_if (by omega) (ev_if (by simp; omega) ?_))
    have e : (l.take i).map c26 ++ [c26 l[i]] = (l.take (i + 1)).map c26 := by rw [List.take_succ_eq_append_getElem hil, List.map_append]; rfl
    rw [rd27_get l i hil, w64i i (by omega)]
    have e2 : (⟨l[i].f0, l[i].f1, l[i].f2, l[i].f3⟩ : S26) = c26 l[i] := rfl
    rw [e2, e]
    exact ih (i + 1) (by omega)
theorem ml1_ev (ps : List S33) (hps : ps.length ≤ 9223372036854775000) : ∀ d i : Nat, i + d = ps.length → Ev (fun k => rubricatorlaw20_DelimMatches.l1 k ps (ps.map c34) (i : Int)) true := by
  intro d
  induction d with
  | zero =>
    intro i hi
    refine ev_succ ?_
    simp only [rubricatorlaw20_DelimMatches.l1]
    exact ev_else (by omega) known_end
  | succ d ih =>
    intro i hi
    have hil : i < ps.length := by omega
    refine ev_succ ?_
    simp only [rubricatorlaw20_DelimMatches.l1]
    refine ev_if (by omega) (ev_if (by omega) (ev_if (by rw [List.length_map]; omega) ?_))
    rw [rd33_get ps i hil, rd34_map ps i hil, w64i i (by omega)]
    exact ev_else (by simp [c34]) (ih (i + 1) (by omega))
theorem DelimMatches : rubricatorlaw20_DelimMatches.Pure := by
  intro l0 hl
  refine Ev.rounds (r := true) ?_
  unfold rubricatorlaw20_DelimMatches.f
  obtain ⟨b, hb, hh⟩ := heavy_ev l0 (by omega)
  refine Ev.bind hb ?_
  cases b with
  | true => exact ev_if rfl (Ev.now _)
  | false =>
    obtain ⟨hn, hN⟩ := hh rfl
    refine ev_else (by decide) ?_
    obtain ⟨ps, h1, h2⟩ := both_ev l0 (by omega) hN
    obtain ⟨ps2, g1, g2, _, g4⟩ := match_ev l0 (by omega) hN
    obtain rfl : ps = ps2 := Ev.same h1 g1
    have hp := len_bd g2 (fun i hi => by have := g4 i hi; have := mx_bd _ (hN i hi); omega) hn
    refine ml0_ev l0 hn (Ev.bind h1 (Ev.bind h2 (ev_if (by simp) (ml1_ev ps hp ps.length 0 (by omega))))) l0.length 0 (by omega)
end Go.Proofs.Ytojmhdooglihaaa.Pure
