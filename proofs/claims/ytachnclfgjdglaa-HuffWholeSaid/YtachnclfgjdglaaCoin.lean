/- Coins in order: the library's stable sort by a function at structs. The condition (no more than a million) stands in each theorem. -/
import Derived.Test.YtachnclfgjdglaaWMore
import Derived.Test.YtachnclfgjdglaaShelf
import Derived.Test.YtachnclfgjdglaaSymS
import Derived.Lib.OwnBridge
namespace Go.Proofs.Ytachnclfgjdglaa.Coin
open Go.RowKit Go.Sort Go.Proofs.YtachnclfgjdglaaW.PrintWords Go.Proofs.YtachnclfgjdglaaW.PrintLast Go.Proofs.YtachnclfgjdglaaW.PrintMore Go.Proofs.YtachnclfgjdglaaSrt
set_option linter.unusedVariables false
set_option linter.unusedSimpArgs false

/-- some symbols, how often they are, and where they lie -/
structure Cq where
  o : Int
  s : List Int
  a : Option Addr
  c : Nat
instance inhabitedCq : Inhabited Cq := ⟨⟨0, [], none, 0⟩⟩
def encQ (x : Cq) : List Value := [.int .i64 x.o, .slice x.a x.s.length x.c]
def kCq : Kd Cq where
  sz := 2
  E := []
  K := fun _ x cs => cs = encQ x
  M := fun _ _ _ x cs => cs = encQ x
  K_len := fun h => by rw [h]; rfl
  K_one := fun h u hu => by
    rw [h] at hu
    simp [encQ] at hu
    rcases hu with rfl | rfl <;> rfl
  K_below := fun _ h => h
  K_of_M := fun h => h
  M_mono := fun _ h => h
  M_bound := fun h => h
  M_move := fun _ h => h
  M_lower := fun _ h => h
/-- the symbols lie where the coins say -/
def Good (ok : Nat → Prop) (w : World) (l : List Cq) : Prop := ∀ x ∈ l, Kd.R (Kd.int .i64) 3 w 0 ok (.slice x.a x.s.length x.c) x.s
theorem Good.below {ok : Nat → Prop} {w W : World} {l : List Cq} (h : Good ok w l) (hb : Below w.heap.size w W) : Good ok W l := fun x hx => Kd.R_below (h x hx) hb
theorem Good.over {ok0 : Nat → Prop} {w W : World} {l l' : List Cq} {base : Nat} {ok : Nat → Prop} {v : Value} (h : Good ok0 w l) (hv : kCq.R 52 w base ok v l') (hg : w.grownBy W v.ownBlock) : Good ok0 W l := fun x hx =>
  Kd.R_over (h x hx) hv (fun q hq => by
    rcases List.mem_cons.1 hq with rfl | hq
    · decide
    · cases hq) hg
theorem Good.snoc {ok0 : Nat → Prop} {w W : World} {l l' : List Cq} {base : Nat} {ok : Nat → Prop} {v : Value} {x : Cq} (h : Good ok0 w l) (hx : Kd.R (Kd.int .i64) 3 w 0 ok0 (.slice x.a x.s.length x.c) x.s) (hv : kCq.R 52 w base ok v l') (hg : w.grownBy W v.ownBlock) : Good ok0 W (l ++ [x]) :=
  Good.over (fun y hy => by
    rcases List.mem_append.1 hy with hy | hy
    · exact h y hy
    · obtain rfl : y = x := by simpa using hy
      exact hx) hv hg
theorem Good.perm {ok : Nat → Prop} {w : World} {l l' : List Cq} (h : Good ok w l) (hp : l'.Perm l) : Good ok w l' := fun x hx => h x (hp.subset hx)
theorem Good.append {ok : Nat → Prop} {w : World} {l l' : List Cq} (h : Good ok w l) (h' : Good ok w l') : Good ok w (l ++ l') := fun x hx => by
  rcases List.mem_append.1 hx with hx | hx
  · exact h x hx
  · exact h' x hx
/-- a new block is none of theirs -/
theorem Good.apart {w : World} {l : List Cq} (h : Good (fun _ => True) w l) {g : Nat} (hg : w.heap.size ≤ g) : Good (fun k => k ≠ g) w l := fun x hx =>
  Kd.R_mono (Kd.R_bound (h x hx)) (fun k hk => by have := hk.2.2.1; omega)
theorem Good.far {ok : Nat → Prop} {w : World} {l : List Cq} (h : Good ok w l) {p : Addr} (hp : ∀ k, ok k → k ≠ p.block) (u : Value) : Good ok (w.setCell p u) l := fun x hx => Kd.R_far (h x hx) hp u

/-! ### cmp.Compare, and the function that compares two coins -/
def cmpI (x y : Int) : Int := if x < y then -1 else if x > y then 1 else 0
theorem isNaN (x : Int) (w : World) : Calls Try.prog 46 #[.int .i64 x] w fun e w' => e = .returned (.bool false) ∧ w' = w := by
  have hx : (x != x) = false := by simp
  go_enter Try.func46, Try.ntmps46
  go_wp2
  go_ret
  exact ⟨rfl, rfl⟩
theorem compare (x y : Int) (w : World) : Calls Try.prog 41 #[.int .i64 x, .int .i64 y] w fun e w' => e = .returned (.int .i64 (cmpI x y)) ∧ w' = w := by
  have hx := fun W => isNaN x W
  have hy := fun W => isNaN y W
  unfold cmpI
  by_cases h1 : x < y
  · rw [if_pos h1]
    have h1d : decide (x < y) = true := decide_eq_true h1
    clear h1
    go_enter Try.func41, Try.ntmps41
    go_wp2_with (go_at_call 46; first | (refine (hx _).mono ?_; rintro e w' ⟨rfl, rfl⟩) | (refine (hy _).mono ?_; rintro e w' ⟨rfl, rfl⟩))
    go_ret
    exact ⟨rfl, rfl⟩
  · rw [if_neg h1]
    have h1d : decide (x < y) = false := decide_eq_false h1
    by_cases h2 : x > y
    · rw [if_pos h2]
      have h2d : decide (x > y) = true := decide_eq_true h2
      clear h1 h2
      go_enter Try.func41, Try.ntmps41
      go_wp2_with (go_at_call 46; first | (refine (hx _).mono ?_; rintro e w' ⟨rfl, rfl⟩) | (refine (hy _).mono ?_; rintro e w' ⟨rfl, rfl⟩))
      go_ret
      exact ⟨rfl, rfl⟩
    · rw [if_neg h2]
      have h2d : decide (x > y) = false := decide_eq_false h2
      clear h1 h2
      go_enter Try.func41, Try.ntmps41
      go_wp2_with (go_at_call 46; first | (refine (hx _).mono ?_; rintro e w' ⟨rfl, rfl⟩) | (refine (hy _).mono ?_; rintro e w' ⟨rfl, rfl⟩))
      go_ret
      exact ⟨rfl, rfl⟩
theorem closure (x y : Cq) (W : World) : Calls Try.prog 40 #[.agg #[.int .i64 x.o, .slice x.a x.s.length x.c], .agg #[.int .i64 y.o, .slice y.a y.s.length y.c]] W fun e w' => e = .returned (.int .i64 (cmpI x.o y.o)) ∧ ∃ q os', w' = grow (W.drewN q) os' := by
  have hcon := fun W' => compare x.o y.o W'
  generalize cmpI x.o y.o = r at hcon ⊢
  go_enter Try.func40, Try.ntmps40
  go_wp2_with (go_at_call 41; refine (hcon _).mono ?_; rintro e w' ⟨rfl, rfl⟩)
  go_ret
  exact ⟨rfl, 0, _, by rw [alloc_eq_grow, alloc_eq_grow, grow_grow]; rfl⟩
def cfQ (x y : Cq) : Int := cmpI x.o y.o
def ltQ (x y : Cq) : Bool := decide (x.o < y.o)
theorem ltOf_cfQ : ltOf cfQ = ltQ := by
  funext x y
  unfold ltOf cfQ cmpI ltQ
  by_cases h1 : x.o < y.o
  · rw [if_pos h1, decide_eq_true h1]; rfl
  · rw [if_neg h1, decide_eq_false h1]
    split <;> rfl
theorem lays (blk off size : Nat) (w : World) : CmpLays Try.prog 40 #[] encQ 2 cfQ blk off size w := fun _ _ _ _ x y => closure x y _
/-- the insertion sort, between two places -/
theorem insertion (blk cap a b : Nat) (d : Array Cq) (w : World) (hH : HoldsK encQ 2 w blk 0 d) (hblk : blk < w.heap.size) (hab : a ≤ b) (hb : b ≤ d.size) (hsz : d.size < 4611686018427387904) :
    Calls Try.prog 48 #[.slice (some ⟨blk, 0, none⟩) d.size cap, .int .i64 a, .int .i64 b, .func (.func 40) #[] #[]] w fun e w' => e = .returned (.tuple #[]) ∧ ∃ n os, w' = sortWorldK encQ 2 w blk 0 n (insertionSort ltQ d a b) os := by
  have eg : ∀ args w, (callFunc 40 args).run Try.prog w = .ok (.enter 40 args) w := enters_of Try.func40 (by kernel_rfl) rfl
  have h := AnyQ.insertionSortCmpFunc Try.ins48 2 Try.isAgg52 Try.sizeOf52 encQ (fun _ => rfl) (fun x v hv => by simp [encQ] at hv; rcases hv with rfl | rfl <;> rfl) cfQ 40 #[] blk 0 cap a b d w eg (lays blk 0 d.size w) hH hblk hab hb hsz
  rw [ltOf_cfQ] at h
  exact h
/-- what these functions see of this program -/
theorem layS : LayS Try.prog 2 where
  mixed := by kernel_rfl
  f45 := Try.func45
  f48 := Try.func48
  f49 := Try.func49
  f50 := Try.func50
  f51 := Try.func51
  t0 := Try.underlying0
  a0 := Try.isAgg0
  z0 := Try.sizeOf0
  v0 := Try.zeroValue0
  t3 := Try.underlying3
  a3 := Try.isAgg3
  z3 := Try.sizeOf3
  v3 := Try.zeroValue3
  t4 := Try.underlying4
  a4 := Try.isAgg4
  z4 := Try.sizeOf4
  v4 := Try.zeroValue4
  t32 := Try.underlying32
  a32 := Try.isAgg32
  z32 := Try.sizeOf32
  v32 := Try.zeroValue32
  t50 := Try.underlying50
  a50 := Try.isAgg50
  z50 := Try.sizeOf50
  v50 := Try.zeroValue50
  t65 := Try.underlying65
  a65 := Try.isAgg65
  z65 := Try.sizeOf65
  v65 := Try.zeroValue65
  aE := Try.isAgg52
  zE := Try.sizeOf52
def keyQ (x : Cq) : Int := x.o
theorem kl_keyQ : kl keyQ = ltQ := rfl
theorem cf_key (x y : Cq) : cfQ x y < 0 ↔ keyQ x < keyQ y := by
  unfold cfQ cmpI keyQ
  split
  · constructor
    · intro _; assumption
    · intro _; decide
  · split
    · constructor
      · intro h; exact absurd h (by decide)
      · intro h; omega
    · constructor
      · intro h; exact absurd h (by decide)
      · intro h; omega
/-- the stable order, of any length -/
theorem stable (blk cap : Nat) (d : Array Cq) (w : World) (hH : HoldsK encQ 2 w blk 0 d) (hblk : blk < w.heap.size) (hsz : d.size < 1152921504606846976) :
    Calls Try.prog 45 #[.slice (some ⟨blk, 0, none⟩) d.size cap, .int .i64 d.size, .func (.func 40) #[] #[]] w fun e w' => e = .returned (.tuple #[]) ∧ ∃ n os, w' = sortWorldK encQ 2 w blk 0 n (srt ltQ d.toList).toArray os := by
  have R : RowK encQ 2 w blk 0 d := ⟨fun _ => rfl, fun x v hv => by simp [encQ] at hv; rcases hv with rfl | rfl <;> rfl, hH, hblk⟩
  refine stableAny layS encQ 40 #[] blk 0 cap d w R hsz cfQ keyQ cf_key (enters_of Try.func40 (by kernel_rfl) rfl) (lays blk 0 d.size w) ?_ w d (SWK.start hH) rfl
  intro w1 d1 S hs A M B hd a b ha hb
  have hsz1 : d1.size = A.length + M.length + B.length := by rw [size_of hd, List.length_append, List.length_append]
  refine (insertion blk cap a b d1 w1 (S.holds hblk hH hs.symm) (S.lt hblk) (by omega) (by omega) (by omega)).mono ?_
  rintro e w2 ⟨he, n, os, rfl⟩
  refine ⟨he, ?_⟩
  have hl := insertion_list ltQ A M B d1 hd
  rw [← ha, ← hb] at hl
  rw [kl_keyQ, ← toArr hl]
  exact S.on hblk n _ os (by rw [size_of hl, hsz1, List.length_append, List.length_append, srt_length])
/-- a row of coins of the call's own, as the sort sees it -/
theorem holds_of {w : World} {base g cap n : Nat} {ok : Nat → Prop} {l : List Cq} (h : kCq.R 52 w base ok (.slice (some ⟨g, 0, none⟩) n cap) l) : n = l.length ∧ g < w.heap.size ∧ base ≤ g ∧ HoldsK encQ 2 w g 0 l.toArray := by
  obtain ⟨hn, hc, _⟩ := Kd.R_reads' h
  refine ⟨hn, Kd.R_lt h g rfl, Kd.R_base h g rfl, ?_⟩
  intro j hj
  rw [size_flatK] at hj
  have hj2 : j / 2 < l.length := by
    have : j < l.length * 2 := by simpa using hj
    omega
  obtain ⟨c, hcl, hM, hcc, hfr⟩ := Kd.R_elem h default ((j / 2 : Nat) : Int) (by omega) (by omega)
  rw [Int.toNat_natCast] at hM hcc hfr
  have hM' : c = encQ (l.getD (j / 2) default) := hM
  have hjm : j / 2 * 2 + j % 2 = j := by omega
  have hcc2 := hcc (j % 2)
  have hfr2 := hfr (j % 2)
  rw [show kCq.sz = 2 from rfl, hjm] at hcc2 hfr2
  rw [get_flatK _ _ _ _ hj, Nat.zero_add]
  refine ⟨?_, hfr2⟩
  have hl : l.toArray[j / 2]! = l.getD (j / 2) default := by
    rw [getElem!_pos _ _ (by simpa using hj2)]
    simp [List.getD_eq_getElem?_getD, hj2]
  rw [hl]
  refine hcc2 _ ?_
  have h2 : j % 2 < c.length := by rw [hcl]; exact Nat.mod_lt _ (by decide)
  rw [List.getElem?_eq_getElem h2]
  subst hM'
  rw [getElem!_pos (encQ (l.getD (j / 2) default)) (j % 2) h2]
  rfl
/-- and back -/
theorem sorted_row {w : World} {base g cap n m : Nat} {ok : Nat → Prop} {l l' : List Cq} {os : Array Obj} (h : kCq.R 52 w base ok (.slice (some ⟨g, 0, none⟩) n cap) l) (hl : l'.length = l.length) :
    kCq.R 52 (sortWorldK encQ 2 w g 0 m l'.toArray os) base ok (.slice (some ⟨g, 0, none⟩) n cap) l' ∧ Below base w (sortWorldK encQ 2 w g 0 m l'.toArray os) := by
  obtain ⟨hn, hc, _⟩ := Kd.R_reads' h
  have hlt := Kd.R_lt h g rfl
  have hbase := Kd.R_base h g rfl
  obtain ⟨h0, inner, ho, hr⟩ := h
  rcases ho.2 with ⟨e0, _⟩ | ⟨g', cap', cur, e0, hb, hg, hn', hm, hs, ht⟩
  · cases e0
  injection e0 with e1 _ e3
  injection e1 with e1
  injection e1 with e1
  subst e1; subst e3
  have hblock : (sortWorldK encQ 2 w g 0 m l'.toArray os).heap[g]? = some (.cells (putCells id 0 (flatK encQ 2 l'.toArray) cur) 52 (0, 0)) := by
    unfold sortWorldK grow putRowK putRow mapBlock
    rw [Array.getElem?_append_left (by simpa [Sort.ahead] using hlt)]
    simp [Sort.ahead, Array.getElem?_modify, hg, onCells]
  have hkz : kCq.sz = 2 := rfl
  rw [hkz] at hs ht
  have hsz : (flatK encQ 2 l'.toArray).size = l.length * 2 := by rw [size_flatK]; simp [hl]
  refine ⟨⟨h0, (flatK encQ 2 l'.toArray).toList, ⟨by rw [Array.length_toList, hsz, hl, hkz], .inr ⟨g, cap, _, by rw [hl, hn], hb, hblock, by rw [hl]; exact hn', hm, by rw [hkz]; simpa [putCells] using hs, ?_⟩⟩, ?_⟩, ?_⟩
  · apply List.ext_getElem?
    intro j
    rw [List.getElem?_take, Array.getElem?_toList, Array.getElem?_toList, hl, hkz]
    by_cases hj : j < l.length * 2
    · have hjc : j < cur.size := by omega
      rw [if_pos hj]
      simp only [putCells, Array.getElem?_mapIdx, Array.getElem?_eq_getElem hjc, Option.map_some]
      rw [if_pos ⟨Nat.zero_le _, by rw [hsz]; omega⟩, Nat.sub_zero, Array.getElem?_eq_getElem (by rw [hsz]; exact hj), getElem!_pos _ _ (by rw [hsz]; exact hj)]
      rfl
    · rw [if_neg hj, Array.getElem?_eq_none (by rw [hsz]; omega)]
  · refine ⟨by rw [Array.length_toList, hsz, hl, hkz], fun j p hj => ?_⟩
    show ((flatK encQ 2 l'.toArray).toList.drop (j * kCq.sz)).take kCq.sz = encQ p
    rw [hkz]
    have hjl : j < l'.length := (List.getElem?_eq_some_iff.1 hj).1
    apply List.ext_getElem?
    intro i
    rw [List.getElem?_take, List.getElem?_drop, Array.getElem?_toList]
    by_cases hi : i < 2
    · have hlt2 : j * 2 + i < l'.toArray.size * 2 := by simp; omega
      rw [if_pos hi, Array.getElem?_eq_getElem (by rw [size_flatK]; exact hlt2)]
      have := get_flatK encQ 2 l'.toArray (j * 2 + i) hlt2
      rw [getElem!_pos _ _ (by rw [size_flatK]; exact hlt2)] at this
      rw [this, show (j * 2 + i) / 2 = j by omega, show (j * 2 + i) % 2 = i by omega]
      have hp : l'.toArray[j]! = p := by
        rw [getElem!_pos _ _ (by simpa using hjl)]
        have := List.getElem?_eq_getElem hjl
        rw [hj] at this
        simpa using (Option.some.inj this).symm
      rw [hp, getElem!_pos (encQ p) i hi]
      exact (List.getElem?_eq_getElem hi).symm
    · rw [if_neg hi, List.getElem?_eq_none (show (encQ p).length ≤ i by show 2 ≤ i; omega)]
  · have hb1 : Below base w (putRowK encQ 2 (Sort.ahead w m) g 0 l'.toArray) := Lib.below_putRow (Below.refl _ _) hbase
    refine ⟨hb1.os, hb1.tape, hb1.output, ?_, fun k hk => ?_⟩
    · show w.heap.size ≤ (grow (putRowK encQ 2 (Sort.ahead w m) g 0 l'.toArray) os).heap.size
      rw [size_grow]
      exact Nat.le_trans hb1.size (Nat.le_add_right _ _)
    · show (grow (putRowK encQ 2 (Sort.ahead w m) g 0 l'.toArray) os).heap[k]? = w.heap[k]?
      unfold grow
      rw [Array.getElem?_append_left (Nat.lt_of_lt_of_le (Nat.lt_of_lt_of_le hk (by omega)) hb1.size)]
      exact hb1.block k hk
set_option maxHeartbeats 4000000 in
/-- slices.SortStableFunc over a row of the call's own -/
theorem sortStable {w : World} {base : Nat} {ok : Nat → Prop} {A : Option Addr} {n c : Nat} {l : List Cq} (h : kCq.R 52 w base ok (.slice A n c) l) (hl : l.length ≤ 1000000) (hl0 : 0 < l.length) :
    Calls Try.prog 39 #[.slice A n c, .func (.func 40) #[] #[]] w fun e w' => e = .returned (.tuple #[]) ∧ kCq.R 52 w' base ok (.slice A n c) (srt ltQ l) ∧ Below base w w' := by
  obtain ⟨g, cap, e, _, _, _⟩ := Kd.R_form h hl0
  cases e
  obtain ⟨_, hlt, _, hH⟩ := holds_of h
  have hcon := stable g c l.toArray w hH hlt (by have : l.toArray.size = l.length := by simp
                                                 omega)
  have hfin := fun m os => sorted_row (m := m) (os := os) (l' := srt ltQ l) h (srt_length ltQ l)
  rw [show l.toArray.size = l.length by simp, show l.toArray.toList = l from rfl] at hcon
  generalize (srt ltQ l) = l' at hcon hfin ⊢
  generalize l.length = m at hcon hfin ⊢
  clear hH h hl hl0
  go_enter Try.func39, Try.ntmps39
  go_wp2_with (go_at_call 45; refine hcon.mono ?_; rintro e w' ⟨rfl, n, os, rfl⟩)
  go_end0
  exact ⟨rfl, hfin n os⟩
end Go.Proofs.Ytachnclfgjdglaa.Coin
