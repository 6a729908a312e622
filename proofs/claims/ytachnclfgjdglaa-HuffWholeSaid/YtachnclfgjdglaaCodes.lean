/- Codes by lengths: what huff.Codes computes. No conditions. -/
import Derived.Test.YtachnclfgjdglaaCode
import Derived.Deep.WholeRow
namespace Go.Proofs.Ytachnclfgjdglaa.Coin
open Go.RowKit Go.Sort Go.Proofs.YtachnclfgjdglaaW.PrintWords Go.Proofs.YtachnclfgjdglaaW.PrintLast Go.Proofs.YtachnclfgjdglaaW.PrintMore
set_option linter.unusedVariables false
set_option linter.unusedSimpArgs false

def codesP (l : List Int) : Nat → List Int × List Int
  | 0 => (firstP (manyP l l.length) 15, List.replicate l.length 0)
  | k + 1 => if l.getD k 0 > 0 then ((codesP l k).1.set (l.getD k 0).toNat (wrap64 ((codesP l k).1.getD (l.getD k 0).toNat 0 + 1)), (codesP l k).2.set k ((codesP l k).1.getD (l.getD k 0).toNat 0)) else codesP l k
def codesF (l : List Int) : List Int × Int := if isL l = true then (if (fillP l l.length).1 > 32768 then ([], 21) else ((codesP l l.length).2, 0)) else ([], 1)
theorem codesP_len (l : List Int) : ∀ k, (codesP l k).2.length = l.length
  | 0 => List.length_replicate
  | k + 1 => by
    rw [codesP]
    split
    · rw [List.length_set, codesP_len l k]
    · exact codesP_len l k
theorem arr_of {w : World} {base g : Nat} {ok : Nat → Prop} {l : List Int} (h : w.heap[g]? = some (.cells (nums .i64 l).toArray 48 (0, 0))) (hb : base ≤ g) (hok : ok g) (hl : l.length = 17) : Arr w base g ok l := by
  refine ⟨Kd.R_of_own (h1 := fun _ => rfl) ⟨by simp [encs, hl], .inr ⟨g, 17, _, by rw [hl], hb, h, by omega, by decide, by simp [nums, hl], ?_⟩⟩ (fun k hk => ?_), hl⟩
  · rw [List.take_of_length_le (by simp [nums, hl])]
    rfl
  · have : g = k := by simpa [Value.ownBlock] using hk
    exact this ▸ hok
set_option maxHeartbeats 8000000 in
set_option maxRecDepth 100000 in
theorem codes (A : Option Addr) (c : Nat) (l : List Int) (w : World) (hr : Kd.C (Kd.int .i64) w A l.length l) :
    Calls Try.prog 13 #[.slice A l.length c] w fun e w' => ∃ v, e = .returned (.tuple #[v, .int .i64 (codesF l).2]) ∧ Kd.R (Kd.int .i64) 3 w' w.heap.size (fun _ => True) v (codesF l).1 ∧ Below w.heap.size w w' := by
  have HR := Aside0.mk hr
  have hare := fun W hW => are A c l W (Kd.C_below hr hW)
  unfold codesF
  by_cases hl : isL l = true
  case neg =>
    rw [if_neg hl]
    rw [Bool.eq_false_iff.2 hl] at hare
    have h1 := hare w (Below.refl _ _)
    generalize l.length = n at h1 ⊢
    clear hare hl hr HR
    go_enter Try.func13, Try.ntmps13
    go_wp2_with (go_at_call 27; refine h1.mono ?_; rintro e w' ⟨rfl, rfl⟩)
    go_ret2
    exact ⟨_, rfl, Kd.R_nil _ _ _ _ _, Below.refl _ _⟩
  rw [if_pos hl]
  rw [hl] at hare
  have h1 := hare w (Below.refl _ _)
  have hfill := fill A c l w hr hl
  have hfst := firsts A c l w hr hl
  have HI := Aside0.mk hl
  have HN := Aside0.mk (isL_len hl)
  by_cases hf : (fillP l l.length).1 > 32768
  · rw [if_pos hf]
    have df : decide ((fillP l l.length).1 > 32768) = true := decide_eq_true hf
    generalize fillP l l.length = p at hfill hf df
    generalize l.length = n at h1 hfill ⊢
    clear hare hl hr HR hf hfst HN
    go_enter Try.func13, Try.ntmps13
    go_wp2_with (first | (go_at_call 27; refine h1.mono ?_; rintro e w' ⟨rfl, rfl⟩) | (go_at_call 28; refine hfill.mono ?_; rintro e w' ⟨rfl, rfl⟩))
    go_ret2
    exact ⟨_, rfl, Kd.R_nil _ _ _ _ _, Below.refl _ _⟩
  rw [if_neg hf]
  have df : decide ((fillP l l.length).1 > 32768) = false := decide_eq_false hf
  obtain ⟨p, hp⟩ : ∃ p, p = fillP l l.length := ⟨_, rfl⟩
  rw [← hp] at hfill df
  obtain ⟨F, hF⟩ : ∃ F, F = firstP (manyP l l.length) 15 := ⟨_, rfl⟩
  rw [← hF] at hfst
  have HFl := Aside0.mk (show F.length = 17 by rw [hF]; exact firstP_len _ _)
  have HF := Aside0.mk hF
  have hmk := print_make_int (P := Try.prog) 22 3 (.int .i64 0) 8 Try.underlying22 inf3 rfl (by decide) (l.length : Int) (by omega) (by have := HN.out; omega)
  rw [Int.toNat_natCast] at hmk
  clear hare hl hr hf hp hF
  go_enter Try.func13, Try.ntmps13
  go_wp2_with (first | (go_at_call 27; refine h1.mono ?_; rintro e w' ⟨rfl, hw'⟩; subst w') | (go_at_call 28; refine hfill.mono ?_; rintro e w' ⟨rfl, hw'⟩; subst w') | (go_at_call 29; refine hfst.mono ?_; rintro e w1 ⟨rfl, hb1⟩; have HB1 := Aside0.mk hb1; clear hb1) | ((with_reducible refine gate_store (t := 48) (p := 6) rfl ?_); refine wpList_store_row rfl 48 (.tmp 6) (.tmp 21) rfl w1.heap.size (nums .i64 F).toArray rfl rfl 48 #[.int .i64 0, .int .i64 0, .int .i64 0, .int .i64 0, .int .i64 0, .int .i64 0, .int .i64 0, .int .i64 0, .int .i64 0, .int .i64 0, .int .i64 0, .int .i64 0, .int .i64 0, .int .i64 0, .int .i64 0, .int .i64 0, .int .i64 0] (heap_alloc_new w1 _) (inf48 _ HFl.out) (by have := HFl.out; simp [nums, this]) (nums_one _) ?_; rw [World.setRow_alloc_new]))
  generalize hw2 : (w1.alloc (.cells (nums .i64 F).toArray 48)).alloc (.cells (madeCells #[.int .i64 0] l.length) 3) = w2
  generalize hg : w1.heap.size = g
  have HA := Aside0.mk (show Arr w2 w.heap.size g (fun k => k ≠ g + 1) F from by
    have h := arr_of (w := w1.alloc (.cells (nums .i64 F).toArray 48)) (base := w.heap.size) (ok := fun k => k ≠ g + 1) (g := g) (l := F) (by rw [← hg]; exact heap_alloc_new w1 _) (by rw [← hg]; exact HB1.out.size) (by omega) HFl.out
    rw [← hw2]
    exact h.below (below_alloc (Below.refl _ _) _))
  have HC := Aside0.mk (show Kd.R (Kd.int .i64) 3 w2 w.heap.size (fun k => k ≠ g) (.slice (some ⟨g + 1, 0, none⟩) l.length l.length) (List.replicate l.length 0) from by
    have h := Kd.R_of_own (enc := Value.int .i64) (h1 := fun _ => rfl) (ok := fun k => k ≠ g) (own_made' (w1.alloc (.cells (nums .i64 F).toArray 48)) w.heap.size 3 .i64 l.length (by simp; have := HB1.out.size; omega) (by have := HN.out; omega)) (fun k hk => by
      have h1 : (w1.alloc (.cells (nums .i64 F).toArray 48)).heap.size = k := by simpa [Value.ownBlock] using hk
      have h2 : (w1.alloc (.cells (nums .i64 F).toArray 48)).heap.size = w1.heap.size + 1 := by simp
      omega)
    rw [show (w1.alloc (.cells (nums .i64 F).toArray 48)).heap.size = g + 1 by simp [hg]] at h
    rw [← hw2]
    exact h)
  have HB2 := Aside0.mk (show Below w.heap.size w w2 from by rw [← hw2]; exact below_alloc (below_alloc HB1.out _) _)
  clear hw2 hg hmk h1 hfill hfst df
  go_loopg [8, 9, 27] l.length (fun gg _ _ v27 wr => ∃ k : Nat, k ≤ l.length ∧ l.length - k ≤ gg ∧ v27 = .int .i64 k ∧ Aside0 (Arr wr w.heap.size g (fun k => k ≠ g + 1) (codesP l k).1) ∧ Aside0 (Kd.R (Kd.int .i64) 3 wr w.heap.size (fun k => k ≠ g) (.slice (some ⟨g + 1, 0, none⟩) l.length l.length) (codesP l k).2) ∧ Aside0 (Below w.heap.size w wr))
  case atStart => exact ⟨0, by omega, by omega, rfl, ⟨by rw [codesP, ← HF.out]; exact HA.out⟩, HC, HB2⟩
  case round =>
    obtain ⟨k, hk, hgg, rfl, HA, HC, HB⟩ := hrel
    by_cases hlt : k < l.length
    case neg =>
      have hke : k = l.length := by omega
      subst hke
      have hd1 : decide ((l.length : Int) < (l.length : Int)) = false := decide_eq_false (by omega)
      clear hk hgg hlt
      go_wp2
      go_ret2
      exact ⟨_, rfl, Kd.R_mono HC.out (fun _ _ => trivial), HB.out⟩
    have hd1 : decide ((k : Int) < (l.length : Int)) = true := decide_eq_true (by omega)
    have hkz : (k : Int) < (l.length : Int) := by omega
    obtain ⟨ad, e, hcell0⟩ := at_i HR.out k hlt
    cases e
    have hcell := (HB.out.cell (World.block_lt_of_cell? w _ hcell0)).trans hcell0
    have ha := isL_at HI.out k hlt
    have hs : codesP l (k + 1) = if l.getD k 0 > 0 then ((codesP l k).1.set (l.getD k 0).toNat (wrap64 ((codesP l k).1.getD (l.getD k 0).toNat 0 + 1)), (codesP l k).2.set k ((codesP l k).1.getD (l.getD k 0).toNat 0)) else codesP l k := rfl
    have hbad := World.block_lt_of_cell? w _ hcell0
    clear hcell0
    generalize l.getD k 0 = x at hcell ha hs
    have hcl := codesP_len l k
    generalize codesP l k = q at HA HC hs hcl
    have hw2 : wrap64 ((k : Int) + 1) = ((k + 1 : Nat) : Int) := by have := HN.out; unfold wrap64; omega
    have HK := Aside0.mk hlt
    have HGG := Aside0.mk hgg
    have HW2 := Aside0.mk hw2
    clear hgg hw2
    by_cases hx : x > 0
    · rw [if_pos hx] at hs
      have dx : decide (x > 0) = true := decide_eq_true hx
      obtain ⟨m1, m2⟩ := HA.out.cell x (by omega) (by omega)
      obtain ⟨n1, n2⟩ := Kd.R_cell (g := g + 1) (cap := l.length) 0 (show (Kd.int .i64).R 3 wr w.heap.size (fun k => k ≠ g) (.slice (some ⟨g + 1, 0, none⟩) q.2.length l.length) q.2 by rw [hcl]; exact HC.out) (k : Int) (by omega) (by rw [hcl]; omega)
      rw [Int.toNat_natCast] at n1 n2
      have hput := (Kd.R_put (g := g + 1) (cap := l.length) (show (Kd.int .i64).R 3 wr w.heap.size (fun k => k ≠ g) (.slice (some ⟨g + 1, 0, none⟩) q.2.length l.length) q.2 by rw [hcl]; exact HC.out) (k : Int) (q.1.getD x.toNat 0)).1
      rw [Int.toNat_natCast, hcl] at hput
      have HP := Aside0.mk hput
      have HA2 := Aside0.mk (HA.out.far (p := ⟨g + 1, k, none⟩) (fun _ h => h) (.int .i64 (q.1.getD x.toNat 0)))
      clear hput
      generalize hv : q.1.getD x.toNat 0 = v at m1 hs HP HA2
      have z1 : (0 ≤ x) = True := eq_true (by omega)
      have z2 : (x < 17) = True := eq_true (by omega)
      have HX := Aside0.mk (And.intro ha.1 (by omega : x < 17))
      have HS := Aside0.mk hs
      have hw2 := HW2.out
      have HV := Aside0.mk hv
      clear hs hv hk ha
      go_wp2
      clear hw2 z1 z2 dx hd1 hkz
      have hgb : w.heap.size ≤ g := Kd.R_base HA.out.1 g rfl
      go_roundg (l.length - (k + 1))
      case measure => have := HK.out; have := HGG.out; omega
      case rel =>
        have h1 := HK.out
        refine ⟨k + 1, by omega, by omega, by first | rw [HW2.out] | go_num, ⟨?_⟩, ⟨?_⟩, ⟨(HB.out.setCell (p := ⟨g + 1, k, none⟩) (by show w.heap.size ≤ g + 1; omega) _).setCell (p := ⟨g, x.toNat, none⟩) hgb _⟩⟩
        · rw [HS.out]
          exact HA2.out.put x _
        · rw [HS.out]
          exact Kd.R_far HP.out (p := ⟨g, x.toNat, none⟩) (fun _ h => h) _
    · rw [if_neg hx] at hs
      have dx : decide (x > 0) = false := decide_eq_false hx
      have HS := Aside0.mk hs
      have hw2 := HW2.out
      clear hs ha hk
      go_wp2
      clear hw2
      go_roundg (l.length - (k + 1))
      case measure => have := HK.out; have := HGG.out; omega
      case rel =>
        have h1 := HK.out
        exact ⟨k + 1, by omega, by omega, by first | rw [HW2.out] | go_num, ⟨by rw [HS.out]; exact HA.out⟩, ⟨by rw [HS.out]; exact HC.out⟩, HB⟩
end Go.Proofs.Ytachnclfgjdglaa.Coin
