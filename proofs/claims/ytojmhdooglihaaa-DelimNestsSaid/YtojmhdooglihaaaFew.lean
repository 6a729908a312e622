/- There are no more pairs than marks have signs. At most 300 marks of at most 200 signs. -/
import Derived.Test.YtojmhdooglihaaaHeavy
namespace Go.Proofs.Ytojmhdooglihaaa.Theory
open Go.RowKit Go.Proofs.Ytojmhdooglihaaa.PA Go.Proofs.YtojmhdooglihaaaW.PrintWords Go.Proofs.YtojmhdooglihaaaW.PrintLast Go.Proofs.YtojmhdooglihaaaW.PrintMore
open Go.Proofs.YtojmhdooglihaaaAid
instance : Inhabited S27 := ⟨⟨0, 0, false, false⟩⟩
theorem len_bd {l : List S27} {ps : List S33} (h : ∀ p ∈ ps, Good l p) (hu : ∀ i : Nat, i < l.length → used ps i ≤ 200) (hl : l.length ≤ 300) : ps.length ≤ 9223372036854775000 := by
  -- each pair uses a sign of the mark that it comes from: as many pairs as 200 times the marks at the most
  have key : ∀ (qs : List S33), (∀ p ∈ qs, Good l p) → (qs.length : Int) ≤ ((List.range l.length).map fun i => used qs i).sum := by
    intro qs
    induction qs with
    | nil =>
      intro _
      have : ∀ n : Nat, (0 : Int) ≤ ((List.range n).map fun i => used [] i).sum := by
        intro n
        induction n with
        | zero => simp
        | succ n ih => rw [List.range_succ, List.map_append, List.sum_append]; simp [used] at ih ⊢; omega
      simpa using this l.length
    | cons p qs ih =>
      intro hq
      have h1 := ih (fun q hq' => hq q (List.mem_cons_of_mem _ hq'))
      obtain ⟨g0, g1, g2, _⟩ := hq p List.mem_cons_self
      have w1 : ∀ s : Bool, 1 ≤ wOf s := by intro s; cases s <;> decide
      have step : ∀ n : Nat, ((List.range n).map fun i => used (p :: qs) i).sum = ((List.range n).map fun i => usedBy p i).sum + ((List.range n).map fun i => used qs i).sum := by
        intro n
        induction n with
        | zero => simp
        | succ n ih2 =>
          rw [List.range_succ, List.map_append, List.map_append, List.map_append, List.sum_append, List.sum_append, List.sum_append, ih2]
          simp [used]
          omega
      have nn : ∀ i : Nat, 0 ≤ usedBy p i := by
        intro i
        unfold usedBy
        have := w1 p.f2
        split <;> split <;> omega
      have one : ∀ n : Nat, (p.f0 < (n : Int) → 1 ≤ ((List.range n).map fun i => usedBy p i).sum) ∧ 0 ≤ ((List.range n).map fun i => usedBy p i).sum := by
        intro n
        induction n with
        | zero => exact ⟨fun h => by omega, by simp⟩
        | succ n ih2 =>
          rw [List.range_succ, List.map_append, List.sum_append]
          have := nn n
          simp only [List.map_cons, List.map_nil, List.sum_cons, List.sum_nil]
          refine ⟨fun h => ?_, by omega⟩
          by_cases e : p.f0 = (n : Int)
          · have h3 : 1 ≤ usedBy p n := by
              unfold usedBy
              have := w1 p.f2
              rw [if_pos e]
              split <;> omega
            omega
          · have := ih2.1 (by omega)
            omega
      rw [step]
      have := (one l.length).1 (by omega)
      rw [List.length_cons]
      omega
  have h1 := key ps h
  have h2 : ∀ n : Nat, n ≤ l.length → ((List.range n).map fun i => used ps i).sum ≤ 200 * (n : Int) := by
    intro n
    induction n with
    | zero => simp
    | succ n ih =>
      intro hn
      have := ih (by omega)
      have := hu n (by omega)
      rw [List.range_succ, List.map_append, List.sum_append]
      simp only [List.map_cons, List.map_nil, List.sum_cons, List.sum_nil]
      omega
  have := h2 l.length (Nat.le_refl _)
  omega
/-- A function that answers from some number of rounds on answers one thing. -/
theorem _root_.Go.Proofs.YtojmhdooglihaaaW.PrintWords.Ev.same {α : Type} {g : Nat → Option α} {r s : α} (h : Ev g r) (h2 : Ev g s) : r = s := by
  obtain ⟨K, hK⟩ := h
  obtain ⟨M, hM⟩ := h2
  have a := hK (max K M) (Nat.le_max_left _ _)
  rw [hM (max K M) (Nat.le_max_right _ _)] at a
  exact (Option.some.inj a).symm
end Go.Proofs.Ytojmhdooglihaaa.Theory
