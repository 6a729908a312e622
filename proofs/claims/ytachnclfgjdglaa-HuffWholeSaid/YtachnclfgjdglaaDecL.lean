/- A decoder of lengths, and its step. The conditions stand in each theorem. -/
import Derived.Test.YtachnclfgjdglaaNx
namespace Go.Proofs.Ytachnclfgjdglaa.PA
open Go.RowKit Go.Proofs.Ytachnclfgjdglaa.PA Go.Proofs.YtachnclfgjdglaaW.PrintWords Go.Proofs.YtachnclfgjdglaaW.PrintLast Go.Proofs.YtachnclfgjdglaaW.PrintMore Go.Proofs.YtachnclfgjdglaaAid Go.Proofs.Ytachnclfgjdglaa.Coin Go.Proofs.Ytachnclfgjdglaa.Known Go.Proofs.Ytachnclfgjdglaa.Next Go.Proofs.Ytachnclfgjdglaa.Pure
set_option linter.unusedVariables false
set_option linter.unusedSimpArgs false

theorem dec_step {w w1 : World} {base g : Nat} {F : List Int} {Y : List Yr} {co le : Int} (h : Dec w base g F Y co le) (hm : ∀ k, base ≤ k → k < w.heap.size → w1.heap[k]? = w.heap[k]?) : Dec w1 base g F Y co le :=
  ⟨(hm g h.gb h.lt).trans h.blk, h.fl, h.yl, fun y hy => Kd.R_mono (Kd.R_step (Kd.R_bound (h.row y hy)) (fun k hk hlt => hm k hk.2.1 hlt)) (fun _ hk => hk.1), h.apart, h.gb⟩
/-- the last length that is one -/
def onlyP (l : List Int) : Nat → Int
  | 0 => 0
  | k + 1 => if l.getD k 0 > 0 then l.getD k 0 else onlyP l k
theorem only_fill {l : List Int} (h : isL l = true) : ∀ k, k ≤ l.length → ((fillP l k).2 = 0 → (fillP l k).1 = 0) ∧ ((fillP l k).2 = 1 → 0 < onlyP l k ∧ onlyP l k ≤ 15 ∧ (fillP l k).1 = 2 ^ (15 - onlyP l k).toNat)
  | 0, _ => ⟨fun _ => rfl, fun h => by cases h⟩
  | k + 1, hk => by
    obtain ⟨i1, i2⟩ := only_fill h k (by omega)
    have hs := fillP_small h k (by omega)
    have ha := isL_at h k (by omega)
    rw [fillP, onlyP]
    generalize l.getD k 0 = x at ha ⊢
    by_cases hx : x > 0
    · rw [if_pos hx, if_pos hx]
      refine ⟨fun e => ?_, fun e => ?_⟩
      · simp only at e; omega
      · simp only at e
        rw [i1 (by omega)]
        exact ⟨hx, ha.2, by simp⟩
    · rw [if_neg hx, if_neg hx]
      exact ⟨i1, i2⟩
theorem sym_none (l : List Int) (hl : isL l = true) (k : Nat) (hk : 16 ≤ k) : ∀ m, m ≤ l.length → symP l k m = []
  | 0, _ => rfl
  | m + 1, hm => by
    have := isL_at hl m (by omega)
    rw [symP, if_neg (by omega)]
    exact sym_none l hl k hk m (by omega)
theorem Y_fun {l : List Int} (hl : isL l = true) {Y : List Yr} (hy : Y.length = 16) (h : ∀ j y, Y[j]? = some y → y.s = symP l j l.length) : (fun k => (Y.getD k ⟨[], none, 0⟩).s) = Sde l := by
  funext k
  rw [List.getD_eq_getElem?_getD]
  by_cases hk : k < 16
  · obtain ⟨y, hyk⟩ : ∃ y, Y[k]? = some y := ⟨_, List.getElem?_eq_getElem (by omega)⟩
    rw [hyk]
    exact h k y hyk
  · rw [List.getElem?_eq_none (by omega)]
    exact (sym_none l hl k (by omega) l.length (Nat.le_refl _)).symm
/-- a decoder of these lengths -/
structure DecL (w : World) (base g : Nat) (l : List Int) (Y : List Yr) (co : Int) (n : Nat) : Prop where
  dec : Dec w base g (Fde l) Y co (n : Int)
  sym : ∀ j y, Y[j]? = some y → y.s = symP l j l.length
  le : n ≤ 14
  nn : 0 ≤ co
  lt : co < 2 ^ n
theorem pow14 {n : Nat} (hn : n ≤ 14) : (2 : Int) ^ n ≤ 16384 := by
  have h : (2 : Int) ^ n ≤ 2 ^ 14 := by exact_mod_cast Nat.pow_le_pow_right (by decide : 0 < 2) hn
  exact h
theorem nextL (w : World) (base g : Nat) (l : List Int) (Y : List Yr) (co bit : Int) (n : Nat) (hl : isL l = true) (h : DecL w base g l Y co n) :
    Calls Try.prog 25 #[.pointer (some ⟨g, 0, none⟩), .int .i64 bit] w fun e w' => ∃ m : Nat, e = .returned (.int .i64 (nx l co (n : Int) bit).1) ∧ (nx l co (n : Int) bit).2.2 = (m : Int) ∧ DecL w' base g l Y (nx l co (n : Int) bit).2.1 m ∧ To base w w' g := by
  have hf := Y_fun hl h.dec.yl h.sym
  have hp := pow14 h.le
  obtain ⟨m, e1, e2, e3, e4⟩ := nx_inv l hl co bit n h.le h.nn h.lt
  refine (next0 w base g (Fde l) Y co (n : Int) bit h.dec (by have := h.le; omega) (by have := h.nn; have := h.lt; omega) (Fde_small l hl) (fun k => ?_)).mono ?_
  · have hk : lenY Y k = (Sde l k).length := congrArg List.length (congrFun hf k)
    have := symP_len l k l.length
    have := isL_len hl
    rw [hk, Sde]
    omega
  · rw [hf]
    rintro e w' ⟨he, hd, ht⟩
    have hd' : Dec w' base g (Fde l) Y (nx l co (n : Int) bit).2.1 (nx l co (n : Int) bit).2.2 := hd
    rw [e1] at hd'
    exact ⟨m, he, e1, ⟨hd', h.sym, e2, e3, e4⟩, ht⟩
theorem mayD_full {l : List Int} (hl : isL l = true) (hm : mayD l = true) : (codesF l) = (outL l, 0) := by
  have hf : ¬ (fillP l l.length).1 > 32768 := by
    obtain ⟨i1, i2⟩ := only_fill hl l.length (Nat.le_refl _)
    have hs := fillP_small hl l.length (Nat.le_refl _)
    unfold mayD at hm
    simp only [Bool.or_eq_true, Bool.and_eq_true, decide_eq_true_eq] at hm
    rcases hm with h | h | h
    · omega
    · have := i1 (by omega)
      omega
    · omega
  unfold codesF
  rw [if_pos hl, if_neg hf, codes_all l hl]
theorem DecL.below {w W : World} {base g : Nat} {l : List Int} {Y : List Yr} {co : Int} {n : Nat} (h : DecL w base g l Y co n) (hb : Below w.heap.size w W) : DecL W base g l Y co n := ⟨h.dec.below hb, h.sym, h.le, h.nn, h.lt⟩
theorem DecL.step {w W : World} {base g : Nat} {l : List Int} {Y : List Yr} {co : Int} {n : Nat} (h : DecL w base g l Y co n) (hm : ∀ k, base ≤ k → k < w.heap.size → W.heap[k]? = w.heap[k]?) : DecL W base g l Y co n := ⟨dec_step h.dec hm, h.sym, h.le, h.nn, h.lt⟩
theorem newL (A : Option Addr) (c : Nat) (l : List Int) (w : World) (hr : Kd.C (Kd.int .i64) w A l.length l) (hl : isL l = true) (hm : mayD l = true) :
    Calls Try.prog 23 #[.slice A l.length c] w fun e w' => ∃ (g : Nat) (Y : List Yr), e = .returned (.tuple #[.pointer (some ⟨g, 0, none⟩), .int .i64 0]) ∧ DecL w' w.heap.size g l Y 0 0 ∧ Below w.heap.size w w' :=
  (Coin.new A c l w hr hl hm).mono fun e w' ⟨g, Y, he, hd, hs, hb⟩ => ⟨g, Y, he, ⟨hd, hs, by omega, by decide, by decide⟩, hb⟩
end Go.Proofs.Ytachnclfgjdglaa.PA
