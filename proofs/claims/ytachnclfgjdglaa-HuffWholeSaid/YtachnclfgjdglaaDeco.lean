/- A decoder: what huff.New makes. No conditions beside those that each theorem says. -/
import Derived.Test.YtachnclfgjdglaaCodes
namespace Go.Proofs.Ytachnclfgjdglaa.Coin
open Go.RowKit Go.Sort Go.Proofs.YtachnclfgjdglaaW.PrintWords Go.Proofs.YtachnclfgjdglaaW.PrintLast Go.Proofs.YtachnclfgjdglaaW.PrintMore
set_option linter.unusedVariables false
set_option linter.unusedSimpArgs false

/-- symbols of one length, and where they lie -/
structure Yr where
  s : List Int
  a : Option Addr
  c : Nat
def yv (y : Yr) : Value := .slice y.a y.s.length y.c
def decC (F : List Int) (Y : List Yr) (co le : Int) : List Value := F.map (Value.int .i64) ++ (Y.map yv ++ [.int .i64 co, .int .i64 le])
/-- a decoder's block and the rows of its symbols -/
structure Dec (w : World) (base g : Nat) (F : List Int) (Y : List Yr) (co le : Int) : Prop where
  blk : w.heap[g]? = some (.cells (decC F Y co le).toArray 58 (0, 0))
  fl : F.length = 17
  yl : Y.length = 16
  row : ∀ y ∈ Y, Kd.R (Kd.int .i64) 3 w base (fun k => k ≠ g) (yv y) y.s
  apart : ∀ (i j : Nat) (yi yj : Yr), i ≠ j → Y[i]? = some yi → Y[j]? = some yj → ∀ k, (yv yi).ownBlock = some k → (yv yj).ownBlock ≠ some k
  gb : base ≤ g
theorem Dec.lt {w : World} {base g : Nat} {F : List Int} {Y : List Yr} {co le : Int} (h : Dec w base g F Y co le) : g < w.heap.size := (Array.getElem?_eq_some_iff.1 h.blk).1
theorem Dec.below {w W : World} {base g : Nat} {F : List Int} {Y : List Yr} {co le : Int} (h : Dec w base g F Y co le) (hb : Below w.heap.size w W) : Dec W base g F Y co le :=
  ⟨(hb.block g h.lt).trans h.blk, h.fl, h.yl, fun y hy => Kd.R_below (h.row y hy) hb, h.apart, h.gb⟩
theorem decC_at {F : List Int} {Y : List Yr} {co le : Int} (hf : F.length = 17) {i : Nat} {y : Yr} (hy : Y[i]? = some y) : (decC F Y co le)[17 + i]? = some (yv y) := by
  unfold decC
  have hi := (List.getElem?_eq_some_iff.1 hy).1
  rw [List.getElem?_append_right (by rw [List.length_map]; omega), List.length_map, hf, show 17 + i - 17 = i by omega, List.getElem?_append_left (by rw [List.length_map]; exact hi), List.getElem?_map, hy]
  rfl
theorem decC_set {F : List Int} {Y : List Yr} {co le : Int} (hf : F.length = 17) {i : Nat} (hi : i < Y.length) (y : Yr) : (decC F Y co le).set (17 + i) (yv y) = decC F (Y.set i y) co le := by
  unfold decC
  rw [List.set_append_right _ _ (by rw [List.length_map]; omega), List.length_map, hf, show 17 + i - 17 = i by omega, List.set_append_left _ _ (by rw [List.length_map]; exact hi), List.map_set]
theorem Dec.cell {w : World} {base g : Nat} {F : List Int} {Y : List Yr} {co le : Int} (h : Dec w base g F Y co le) (x : Int) (h0 : 0 ≤ x) (h1 : x < 16) (y : Yr) (hy : Y[x.toNat]? = some y) : w.cell? ⟨g, 17 + x.toNat, none⟩ = some (yv y) ∧ w.frozen? ⟨g, 17 + x.toNat, none⟩ = false := by
  refine ⟨?_, blk_frozen h.blk _⟩
  rw [cell_of_row w g _ _ _ _ h.blk, List.getElem?_toArray]
  exact decC_at h.fl hy
theorem heap_set_at (w : World) (g o : Nat) (cs : Array Value) (t : TypeId) (v : Value) (h : w.heap[g]? = some (.cells cs t (0, 0))) : (w.setCell ⟨g, o, none⟩ v).heap[g]? = some (.cells (cs.setIfInBounds o v) t (0, 0)) := by
  simp [World.setCell, Array.getElem?_modify, h]
theorem row_kept {w w1 : World} {base : Nat} {ok : Nat → Prop} {v : Value} {s : List Int} {row : Option Nat} (h : Kd.R (Kd.int .i64) 3 w base ok v s) (hg : w.grownBy w1 row) (hne : v.ownBlock = none ∨ v.ownBlock ≠ row) : Kd.R (Kd.int .i64) 3 w1 base ok v s :=
  Kd.R_of_own (h1 := fun _ => rfl) (own_other (Kd.own_of_R (h1 := fun _ => rfl) h) hg hne) h.1
theorem Dec.grow {w w5 : World} {base g : Nat} {F : List Int} {Y : List Yr} {co le : Int} (h : Dec w base g F Y co le) (y : Yr) (x : Int) (h0 : 0 ≤ x) (h1 : x < 16) (hy : Y[x.toNat]? = some y) (z : Int) (a5 : Option Addr) (c5 : Nat)
    (ho : Kd.R (Kd.int .i64) 3 w5 base (fun k => k ≠ g) (.slice a5 (y.s ++ [z]).length c5) (y.s ++ [z])) (hg : w.grownBy w5 (yv y).ownBlock) (hat : (Value.slice a5 (y.s ++ [z]).length c5).ownBlock = (yv y).ownBlock ∨ ∃ b, (Value.slice a5 (y.s ++ [z]).length c5).ownBlock = some b ∧ w.heap.size ≤ b) :
    Dec (w5.setCell ⟨g, 17 + x.toNat, none⟩ (.slice a5 (y.s ++ [z]).length c5)) base g F (Y.set x.toNat ⟨y.s ++ [z], a5, c5⟩) co le ∧ w5.cell? ⟨g, 17 + x.toNat, none⟩ = some (yv y) ∧ w5.frozen? ⟨g, 17 + x.toNat, none⟩ = false := by
  have hx : x.toNat < Y.length := (List.getElem?_eq_some_iff.1 hy).1
  have hym : y ∈ Y := List.mem_of_getElem? hy
  have hgn : some g ≠ (yv y).ownBlock := fun e => (h.row y hym).1 g e.symm rfl
  have hb5 : w5.heap[g]? = some (.cells (decC F Y co le).toArray 58 (0, 0)) := (hg.block g h.lt hgn).trans h.blk
  refine ⟨⟨?_, h.fl, by rw [List.length_set]; exact h.yl, fun q hq => ?_, fun i j yi yj hij hi hj k hk => ?_, h.gb⟩, ?_, blk_frozen hb5 _⟩
  · rw [heap_set_at w5 g _ _ _ _ hb5]
    rw [List.setIfInBounds_toArray]
    rw [show (Value.slice a5 (y.s ++ [z]).length c5) = yv ⟨y.s ++ [z], a5, c5⟩ from rfl, decC_set h.fl hx]
  · obtain ⟨j, hj⟩ := List.getElem?_of_mem hq
    rw [List.getElem?_set] at hj
    by_cases hjx : x.toNat = j
    · rw [if_pos hjx, if_pos hx] at hj
      obtain rfl := Option.some.inj hj
      exact Kd.R_far ho (p := ⟨g, 17 + x.toNat, none⟩) (fun _ h => h) _
    · rw [if_neg hjx] at hj
      have hqm : q ∈ Y := List.mem_of_getElem? hj
      refine Kd.R_far (row_kept (h.row q hqm) hg ?_) (p := ⟨g, 17 + x.toNat, none⟩) (fun _ h => h) _
      cases hk : (yv q).ownBlock with
      | none => exact .inl rfl
      | some k => exact .inr (fun e => h.apart j x.toNat q y (fun e => hjx e.symm) hj hy k hk e.symm)
  · rw [List.getElem?_set] at hi hj
    by_cases hix : x.toNat = i
    · rw [if_pos hix, if_pos hx] at hi
      rw [if_neg (by omega)] at hj
      obtain rfl := Option.some.inj hi
      rcases hat with hat | ⟨b, hb, hb2⟩
      · exact h.apart x.toNat j y yj (by omega) hy hj k (hat ▸ hk)
      · intro e
        have h2 := Kd.R_lt (h.row yj (List.mem_of_getElem? hj)) k e
        have h3 : some b = some k := hb.symm.trans hk
        have := Option.some.inj h3
        omega
    · rw [if_neg hix] at hi
      by_cases hjx : x.toNat = j
      · rw [if_pos hjx, if_pos hx] at hj
        obtain rfl := Option.some.inj hj
        rcases hat with hat | ⟨b, hb, hb2⟩
        · intro e
          exact h.apart i x.toNat yi y (by omega) hi hy k hk (hat.symm.trans e)
        · intro e
          have h2 := Kd.R_lt (h.row yi (List.mem_of_getElem? hi)) k hk
          have h3 : some b = some k := hb.symm.trans e
          have := Option.some.inj h3
          omega
      · rw [if_neg hjx] at hj
        exact h.apart i j yi yj hij hi hj k hk
  · rw [cell_of_row w5 g _ _ _ _ hb5, List.getElem?_toArray]
    exact decC_at h.fl hy
theorem fold_set (L : List Value) : ∀ (k : Nat) (Z : Array Value), k + L.length ≤ Z.size → ((L.zipIdx k).foldl (fun cs x => cs.setIfInBounds x.2 x.1) Z).toList = Z.toList.take k ++ L ++ Z.toList.drop (k + L.length) := by
  induction L with
  | nil => intro k Z _; simp
  | cons v L ih =>
    intro k Z hk
    rw [List.zipIdx_cons, List.foldl_cons, ih (k + 1) _ (by simp at hk ⊢; omega)]
    have hkz : k < Z.toList.length := by simp at hk ⊢; omega
    rw [Array.toList_setIfInBounds, List.take_set, List.drop_set_of_lt (by omega)]
    rw [List.take_succ_eq_append_getElem hkz, List.set_append_right _ _ (by rw [List.length_take]; omega), List.length_take, Nat.min_eq_left (by omega), Nat.sub_self]
    simp [Nat.add_assoc, Nat.add_comm 1]
/-- may lengths be those of a decoder? -/
def mayD (l : List Int) : Bool := decide ((fillP l l.length).1 = 32768) || (decide ((fillP l l.length).2 ≤ 0) || (decide ((fillP l l.length).2 ≤ 1) && decide ((fillP l l.length).1 = 16384)))
/-- the symbols of a length, in order -/
def symP (l : List Int) (j : Nat) : Nat → List Int
  | 0 => []
  | k + 1 => if l.getD k 0 > 0 ∧ l.getD k 0 = (j : Int) then symP l j k ++ [(k : Int)] else symP l j k
theorem symP_len (l : List Int) (j : Nat) : ∀ k, (symP l j k).length ≤ k
  | 0 => Nat.le_refl _
  | k + 1 => by
    have := symP_len l j k
    rw [symP]
    split
    · rw [List.length_append, List.length_singleton]; omega
    · omega
theorem dec_new (w1 : World) (base : Nat) (F : List Int) (hF : F.length = 17) (hb : base ≤ w1.heap.size) :
    Dec (w1.alloc (.cells ((nums .i64 F).zipIdx.foldl (fun cs x => cs.setIfInBounds x.2 x.1) #[.int .i64 0, .int .i64 0, .int .i64 0, .int .i64 0, .int .i64 0, .int .i64 0, .int .i64 0, .int .i64 0, .int .i64 0, .int .i64 0, .int .i64 0, .int .i64 0, .int .i64 0, .int .i64 0, .int .i64 0, .int .i64 0, .int .i64 0, .slice none 0 0, .slice none 0 0, .slice none 0 0, .slice none 0 0, .slice none 0 0, .slice none 0 0, .slice none 0 0, .slice none 0 0, .slice none 0 0, .slice none 0 0, .slice none 0 0, .slice none 0 0, .slice none 0 0, .slice none 0 0, .slice none 0 0, .slice none 0 0, .int .i64 0, .int .i64 0]) 58)) base w1.heap.size F (List.replicate 16 ⟨[], none, 0⟩) 0 0 := by
  refine ⟨?_, hF, by simp, fun y hy => ?_, fun i j yi yj _ hi hj k hk => ?_, hb⟩
  · rw [heap_alloc_new]
    congr 2
    apply Array.toList_inj.1
    rw [fold_set _ 0 _ (by simp [nums, hF])]
    rw [show (nums .i64 F).length = 17 by simp [nums, hF]]
    simp [decC, nums, yv, List.replicate]
  · obtain rfl : y = ⟨[], none, 0⟩ := (List.mem_replicate.1 hy).2
    exact Kd.R_nil _ _ _ _ _
  · rw [List.getElem?_replicate] at hi
    split at hi
    · obtain rfl := Option.some.inj hi
      simp [yv, Value.ownBlock] at hk
    · cases hi
set_option maxHeartbeats 8000000 in
set_option maxRecDepth 100000 in
theorem new (A : Option Addr) (c : Nat) (l : List Int) (w : World) (hr : Kd.C (Kd.int .i64) w A l.length l) (hl : isL l = true) (hm : mayD l = true) :
    Calls Try.prog 23 #[.slice A l.length c] w fun e w' => ∃ (g : Nat) (Y : List Yr), e = .returned (.tuple #[.pointer (some ⟨g, 0, none⟩), .int .i64 0]) ∧ Dec w' w.heap.size g (firstP (manyP l l.length) 15) Y 0 0 ∧ (∀ j y, Y[j]? = some y → y.s = symP l j l.length) ∧ Below w.heap.size w w' := by
  have HR := Aside0.mk hr
  have h1 := are A c l w hr
  rw [hl] at h1
  have hfill := fill A c l w hr hl
  have hfst := firsts A c l w hr hl
  have HI := Aside0.mk hl
  have HN := Aside0.mk (isL_len hl)
  unfold mayD at hm
  obtain ⟨p, hp⟩ : ∃ p, p = fillP l l.length := ⟨_, rfl⟩
  rw [← hp] at hfill hm
  obtain ⟨F, hF⟩ : ∃ F, F = firstP (manyP l l.length) 15 := ⟨_, rfl⟩
  rw [← hF] at hfst ⊢
  have HFl := Aside0.mk (show F.length = 17 by rw [hF]; exact firstP_len _ _)
  have hnl : (nums .i64 F).length = 17 := by simp [nums, HFl.out]
  clear hl hr hp hF
  have tail : ∀ (cond : Prop), cond → True := fun _ _ => trivial
  by_cases c1 : p.1 = 32768
  · have d1 : (p.1 != 32768) = false := by simp [c1]
    have d1' : (p.1 == 32768) = true := by simp [c1]
    clear hm c1
    go_enter Try.func23, Try.ntmps23
    go_wp2_with (first | (go_at_call 27; refine h1.mono ?_; rintro e w' ⟨rfl, hw'⟩; subst w') | (go_at_call 28; refine hfill.mono ?_; rintro e w' ⟨rfl, hw'⟩; subst w') | (go_at_call 29; refine hfst.mono ?_; rintro e w1 ⟨rfl, hb1⟩; have HB1 := Aside0.mk hb1; clear hb1))
    have hd0 := dec_new w1 w.heap.size F HFl.out HB1.out.size
    generalize hw2 : w1.alloc (.cells (List.foldl (fun cs x => cs.setIfInBounds x.2 x.1) #[.int .i64 0, .int .i64 0, .int .i64 0, .int .i64 0, .int .i64 0, .int .i64 0, .int .i64 0, .int .i64 0, .int .i64 0, .int .i64 0, .int .i64 0, .int .i64 0, .int .i64 0, .int .i64 0, .int .i64 0, .int .i64 0, .int .i64 0, .slice none 0 0, .slice none 0 0, .slice none 0 0, .slice none 0 0, .slice none 0 0, .slice none 0 0, .slice none 0 0, .slice none 0 0, .slice none 0 0, .slice none 0 0, .slice none 0 0, .slice none 0 0, .slice none 0 0, .slice none 0 0, .slice none 0 0, .slice none 0 0, .int .i64 0, .int .i64 0] (nums .i64 F).zipIdx) 58) = w2 at hd0 ⊢
    have HB2 := Aside0.mk (show Below w.heap.size w w2 from by rw [← hw2]; exact below_alloc HB1.out _)
    generalize w1.heap.size = g at hd0 ⊢
    generalize List.foldl (fun cs x => cs.setIfInBounds x.2 x.1) #[.int .i64 0, .int .i64 0, .int .i64 0, .int .i64 0, .int .i64 0, .int .i64 0, .int .i64 0, .int .i64 0, .int .i64 0, .int .i64 0, .int .i64 0, .int .i64 0, .int .i64 0, .int .i64 0, .int .i64 0, .int .i64 0, .int .i64 0, .slice none 0 0, .slice none 0 0, .slice none 0 0, .slice none 0 0, .slice none 0 0, .slice none 0 0, .slice none 0 0, .slice none 0 0, .slice none 0 0, .slice none 0 0, .slice none 0 0, .slice none 0 0, .slice none 0 0, .slice none 0 0, .slice none 0 0, .slice none 0 0, .int .i64 0, .int .i64 0] (nums .i64 F).zipIdx = CC
    have HD := Aside0.mk hd0
    clear hw2 hd0 h1 hfill hfst hnl tail
    go_loopg [7, 8, 37] l.length (fun gg _ _ v37 wr => ∃ (k : Nat) (Y : List Yr), k ≤ l.length ∧ l.length - k ≤ gg ∧ v37 = .int .i64 k ∧ Aside0 (Dec wr w.heap.size g F Y 0 0) ∧ Aside0 (∀ j y, Y[j]? = some y → y.s = symP l j k) ∧ Aside0 (Below w.heap.size w wr))
    case atStart => exact ⟨0, _, by omega, by omega, rfl, HD, ⟨fun j y hy => by
      rw [List.getElem?_replicate] at hy
      split at hy
      · obtain rfl := Option.some.inj hy
        rfl
      · cases hy⟩, HB2⟩
    case round =>
      obtain ⟨k, Y, hk, hgg, rfl, HD, HS, HB⟩ := hrel
      by_cases hlt : k < l.length
      case neg =>
        have hke : k = l.length := by omega
        subst hke
        have hd1 : decide ((l.length : Int) < (l.length : Int)) = false := decide_eq_false (by omega)
        clear hk hgg hlt
        go_wp2
        go_ret2
        exact ⟨g, Y, rfl, HD.out, HS.out, HB.out⟩
      have hd1 : decide ((k : Int) < (l.length : Int)) = true := decide_eq_true (by omega)
      have hkz : (k : Int) < (l.length : Int) := by omega
      obtain ⟨ad, e, hcell0⟩ := at_i HR.out k hlt
      cases e
      have hcell := (HB.out.cell (World.block_lt_of_cell? w _ hcell0)).trans hcell0
      have ha := isL_at HI.out k hlt
      have hsy : ∀ j, symP l j (k + 1) = if l.getD k 0 > 0 ∧ l.getD k 0 = (j : Int) then symP l j k ++ [(k : Int)] else symP l j k := fun j => rfl
      clear hcell0
      generalize l.getD k 0 = x at hcell ha hsy
      have hw2 : wrap64 ((k : Int) + 1) = ((k + 1 : Nat) : Int) := by have := HN.out; unfold wrap64; omega
      have HK := Aside0.mk hlt
      have HGG := Aside0.mk hgg
      have HW2 := Aside0.mk hw2
      have HSY := Aside0.mk hsy
      clear hgg hw2 hsy hk
      by_cases hx : x > 0
      · have dx : decide (x > 0) = true := decide_eq_true hx
        obtain ⟨y, hy⟩ : ∃ y, Y[x.toNat]? = some y := ⟨_, List.getElem?_eq_getElem (by have := HD.out.yl; omega)⟩
        have HY := Aside0.mk hy
        have HYm := Aside0.mk (List.mem_of_getElem? hy)
        have HYl := Aside0.mk (show y.s.length ≤ 1000 by rw [HS.out _ _ hy]; have := symP_len l x.toNat k; have := HN.out; omega)
        have HX := Aside0.mk (And.intro ha.1 (by omega : x < 16))
        have HXx := Aside0.mk hx
        obtain ⟨hsc, hsf⟩ := HD.out.cell x ha.1 (by omega) y hy
        have z1 : (0 ≤ x) = True := eq_true ha.1
        have z2 : (x < 16) = True := eq_true (by omega)
        clear hy ha
        go_wp2
        refine start_ (n := 15) (S := fun w' => w'.cell? ⟨g, 17 + x.toNat, none⟩ = some (yv y)) (ds := [10, 14]) #[false, false, false, false, false, false, false, false, false, false, false, false, false, false, false] (by kernel_rfl) rfl rfl hsc (fun hHeld => ?_)
        generalize hwd : wr.drew = wd at hHeld ⊢
        have HBd := Aside0.mk (show Below w.heap.size w wd from hwd ▸ below_drew HB.out)
        have HDd := Aside0.mk (show Dec wd w.heap.size g F Y 0 0 from hwd ▸ HD.out.below (below_drew (Below.refl _ _)))
        clear hwd
        refine pure_ (i := 0) (N := some 44) (v := ?_) (a' := ?_) #[true, false, false, false, false, false, false, false, false, false, false, false, false, false, false] rfl rfl (by kernel_rfl) (fun _ _ _ h => h) (Or.inl ⟨by rfl, ?_⟩) ?_ ?_
        rotate_left
        · intro w'
          go_simp
          with_reducible rfl
        rotate_left
        · simp only [Act.put, List.setIfInBounds_toArray, List.set_cons_zero, List.set_cons_succ, i64_w, i32_w]
          rfl
        refine pure_ (i := 1) (N := some 45) (v := ?_) (a' := ?_) #[true, true, false, false, false, false, false, false, false, false, false, false, false, false, false] rfl rfl (by kernel_rfl) (fun _ _ _ h => h) (Or.inl ⟨by rfl, ?_⟩) ?_ ?_
        rotate_left
        · intro w'
          go_simp
          with_reducible rfl
        rotate_left
        · simp only [Act.put, List.setIfInBounds_toArray, List.set_cons_zero, List.set_cons_succ, i64_w, i32_w]
          rfl
        refine pure_ (i := 2) (N := some 46) (v := ?_) (a' := ?_) #[true, true, true, false, false, false, false, false, false, false, false, false, false, false, false] rfl rfl (by kernel_rfl) (fun _ _ _ h => h) (Or.inl ⟨by rfl, ?_⟩) ?_ ?_
        rotate_left
        · intro w'
          go_simp
          with_reducible rfl
        rotate_left
        · simp only [Act.put, List.setIfInBounds_toArray, List.set_cons_zero, List.set_cons_succ, i64_w, i32_w]
          rfl
        refine pure_ (i := 3) (N := some 47) (v := ?_) (a' := ?_) #[true, true, true, true, false, false, false, false, false, false, false, false, false, false, false] rfl rfl (by kernel_rfl) (fun _ _ _ h => h) (Or.inl ⟨by rfl, ?_⟩) ?_ ?_
        rotate_left
        · intro w'
          go_simp
          with_reducible rfl
        rotate_left
        · simp only [Act.put, List.setIfInBounds_toArray, List.set_cons_zero, List.set_cons_succ, i64_w, i32_w]
          rfl
        refine pure_ (i := 4) (N := some 48) (v := ?_) (a' := ?_) #[true, true, true, true, true, false, false, false, false, false, false, false, false, false, false] rfl rfl (by kernel_rfl) (fun _ _ _ h => h) (Or.inl ⟨by rfl, ?_⟩) ?_ ?_
        rotate_left
        · intro w'
          go_simp
          with_reducible rfl
        rotate_left
        · simp only [Act.put, List.setIfInBounds_toArray, List.set_cons_zero, List.set_cons_succ, i64_w, i32_w]
          rfl
        refine pure_ (i := 5) (N := some 49) (v := ?_) (a' := ?_) #[true, true, true, true, true, true, false, false, false, false, false, false, false, false, false] rfl rfl (by kernel_rfl) (fun _ _ _ h => h) (Or.inl ⟨by rfl, ?_⟩) ?_ ?_
        rotate_left
        · intro w'
          go_simp
          with_reducible rfl
        rotate_left
        · simp only [Act.put, List.setIfInBounds_toArray, List.set_cons_zero, List.set_cons_succ, i64_w, i32_w]
          rfl
        refine pure_ (i := 6) (N := some 50) (v := ?_) (a' := ?_) #[true, true, true, true, true, true, true, false, false, false, false, false, false, false, false] rfl rfl (by kernel_rfl) (fun _ _ _ h => h) (Or.inl ⟨by rfl, ?_⟩) ?_ ?_
        rotate_left
        · intro w'
          go_simp
          with_reducible rfl
        rotate_left
        · simp only [Act.put, List.setIfInBounds_toArray, List.set_cons_zero, List.set_cons_succ, i64_w, i32_w]
          rfl
        refine pure_ (i := 8) (N := some 52) (v := ?_) (a' := ?_) #[true, true, true, true, true, true, true, false, true, false, false, false, false, false, false] rfl rfl (by kernel_rfl) (fun _ _ _ h => h) (Or.inl ⟨by rfl, ?_⟩) ?_ ?_
        rotate_left
        · intro w'
          go_simp
          with_reducible rfl
        rotate_left
        · simp only [Act.put, List.setIfInBounds_toArray, List.set_cons_zero, List.set_cons_succ, i64_w, i32_w]
          rfl
        refine pure_ (i := 11) (N := some 55) (v := ?_) (a' := ?_) #[true, true, true, true, true, true, true, false, true, false, false, true, false, false, false] rfl rfl (by kernel_rfl) (fun _ _ _ h => h) (Or.inl ⟨by rfl, ?_⟩) ?_ ?_
        rotate_left
        · intro w'
          go_simp
          with_reducible rfl
        rotate_left
        · simp only [Act.put, List.setIfInBounds_toArray, List.set_cons_zero, List.set_cons_succ, i64_w, i32_w]
          rfl
        refine pure_ (i := 12) (N := some 56) (v := ?_) (a' := ?_) #[true, true, true, true, true, true, true, false, true, false, false, true, true, false, false] rfl rfl (by kernel_rfl) (fun _ _ _ h => h) (Or.inl ⟨by rfl, ?_⟩) ?_ ?_
        rotate_left
        · intro w'
          go_simp
          with_reducible rfl
        rotate_left
        · simp only [Act.put, List.setIfInBounds_toArray, List.set_cons_zero, List.set_cons_succ, i64_w, i32_w]
          rfl
        refine take_ (i := 7) (N := some 51) (v := ?_) (a' := ?_) #[true, true, true, true, true, true, true, true, true, false, false, true, true, false, false] rfl rfl (by kernel_rfl) (fun _ _ _ h => h) (Or.inl ⟨by rfl, ?_⟩) hHeld ?_ ?_
        rotate_left
        · rintro w' s0
          go_simp
          with_reducible rfl
        rotate_left
        · simp only [Act.put, List.setIfInBounds_toArray, List.set_cons_zero, List.set_cons_succ, i64_w, i32_w]
          rfl
        refine one_ (i := 9) (N := some 53) #[true, true, true, true, true, true, true, true, true, true, false, true, true, false, false] rfl rfl (by kernel_rfl) (by decide) (fun K hK => ?_)
        refine value_ (w1 := ?_) (v := ?_) (by rfl) rfl ?_ ?_
        rotate_left 2
        · go_simp
          constructor
          · rfl
          · rfl
        refine hK.out _ _ ((HDd.out.below (below_alloc (Below.refl _ _) _)).cell x HX.out.1 HX.out.2 y HY.out).1 (fun hHeld => ?_)
        clear hK K
        refine norm_ (a' := ?_) ?_ ?_
        rotate_left
        · show Act.put _ (some 53) _ = _
          simp only [Act.put, List.setIfInBounds_toArray, List.set_cons_zero, List.set_cons_succ, i64_w, i32_w]
          rfl
        refine last_ (i := 10) (N := some 54) #[true, true, true, true, true, true, true, true, true, true, true, true, true, false, false] rfl rfl (by kernel_rfl) (by decide) (fun K hK => ?_)
        refine Kd.R_append_step (Kd.int .i64) (w0 := w) w.heap.size (by rfl) (.tmp 51) (.tmp 53) 22 3 (.int .i64 0) 8 rfl Try.underlying22 inf3 rfl (by decide) (by omega) (yv y) y.s (k : Int) [.int .i64 (k : Int)] (fun j => j ≠ g) (fun _ => False) rfl rfl ?aP (fun _ hk => hk.elim) ?aF ?aO ?aB ?aS ?aL ?_
        (case aP => exact rfl)
        (case aB => exact HBd.out)
        (case aF => exact (fun j hj => by have := HDd.out.lt; omega))
        (case aO => exact HDd.out.row y HYm.out)
        (case aS => exact below_size HBd.out)
        (case aL => have := HYl.out; omega)
        intro v5 w5 ho hb hg5 hat
        obtain ⟨a5, c5, e5⟩ := Kd.R_slice ho
        subst e5
        have HD5 := Aside0.mk (HDd.out.grow y x HX.out.1 HX.out.2 HY.out (k : Int) a5 c5 ho hg5 hat)
        have HB5 := Aside0.mk hb
        clear ho hb hg5 hat
        refine hK.out _ _ ?_
        clear hK K
        refine norm_ (a' := ?_) ?_ ?_
        rotate_left
        · show Act.put _ (some 54) _ = _
          simp only [Act.put, List.setIfInBounds_toArray, List.set_cons_zero, List.set_cons_succ, i64_w, i32_w]
          rfl
        refine pure_ (i := 13) (N := some 57) (v := ?_) (a' := ?_) #[true, true, true, true, true, true, true, true, true, true, true, true, true, true, false] rfl rfl (by kernel_rfl) (fun _ _ _ h => h) (Or.inl ⟨by rfl, ?_⟩) ?_ ?_
        rotate_left
        · intro w'
          go_simp
          with_reducible rfl
        rotate_left
        · simp only [Act.put, List.setIfInBounds_toArray, List.set_cons_zero, List.set_cons_succ, i64_w, i32_w]
          rfl
        refine last_ (i := 14) (N := none) #[true, true, true, true, true, true, true, true, true, true, true, true, true, true, true] rfl rfl (by kernel_rfl) (by decide) (fun K hK => ?_)
        refine skip_ (w1 := w5.setCell ⟨g, 17 + x.toNat, none⟩ (.slice a5 (y.s ++ [(k : Int)]).length c5)) (by rfl) rfl ?_ ?_
        · obtain ⟨q1, q2⟩ := HD5.out.2
          go_simp
          try rfl
        refine hK.out _ _ ?_
        clear hK K
        refine done_ (by kernel_rfl) ?_
        have hw2 := HW2.out
        clear z1 z2 hsc hsf hkz hd1 dx
        go_wp2
        clear hw2
        go_roundg (l.length - (k + 1))
        case measure => have := HK.out; have := HGG.out; omega
        case rel =>
          have h1 := HK.out
          refine ⟨k + 1, _, by omega, by omega, by first | rw [HW2.out] | go_num, ⟨by have h := HD5.out.1; rw [List.length_append] at h; exact h⟩, ⟨fun j q hq => ?_⟩, ⟨HB5.out.setCell (by show w.heap.size ≤ g; exact HD.out.gb) _⟩⟩
          rw [HSY.out j]
          rw [List.getElem?_set] at hq
          have hxl : x.toNat < Y.length := (List.getElem?_eq_some_iff.1 HY.out).1
          by_cases hjx : x.toNat = j
          · rw [if_pos hjx, if_pos hxl] at hq
            obtain rfl := Option.some.inj hq
            rw [if_pos ⟨HXx.out, by omega⟩, ← HS.out j y (hjx ▸ HY.out)]
          · rw [if_neg hjx] at hq
            rw [if_neg (by have := HXx.out; omega), HS.out j q hq]
      · have dx : decide (x > 0) = false := decide_eq_false hx
        have HXx := Aside0.mk hx
        have hw2 := HW2.out
        clear ha
        go_wp2
        clear hw2
        go_roundg (l.length - (k + 1))
        case measure => have := HK.out; have := HGG.out; omega
        case rel =>
          have h1 := HK.out
          refine ⟨k + 1, Y, by omega, by omega, by first | rw [HW2.out] | go_num, HD, ⟨fun j q hq => ?_⟩, HB⟩
          rw [HSY.out j, if_neg (by have := HXx.out; omega), HS.out j q hq]
  have d1 : (p.1 != 32768) = true := by simp [c1]
  have d1' : (p.1 == 32768) = false := by simp [c1]
  by_cases c2 : p.2 > 0
  case neg =>
    have d2 : decide (p.2 > 0) = false := decide_eq_false c2
    clear hm c1 c2
    go_enter Try.func23, Try.ntmps23
    go_wp2_with (first | (go_at_call 27; refine h1.mono ?_; rintro e w' ⟨rfl, hw'⟩; subst w') | (go_at_call 28; refine hfill.mono ?_; rintro e w' ⟨rfl, hw'⟩; subst w') | (go_at_call 29; refine hfst.mono ?_; rintro e w1 ⟨rfl, hb1⟩; have HB1 := Aside0.mk hb1; clear hb1))
    have hd0 := dec_new w1 w.heap.size F HFl.out HB1.out.size
    generalize hw2 : w1.alloc (.cells (List.foldl (fun cs x => cs.setIfInBounds x.2 x.1) #[.int .i64 0, .int .i64 0, .int .i64 0, .int .i64 0, .int .i64 0, .int .i64 0, .int .i64 0, .int .i64 0, .int .i64 0, .int .i64 0, .int .i64 0, .int .i64 0, .int .i64 0, .int .i64 0, .int .i64 0, .int .i64 0, .int .i64 0, .slice none 0 0, .slice none 0 0, .slice none 0 0, .slice none 0 0, .slice none 0 0, .slice none 0 0, .slice none 0 0, .slice none 0 0, .slice none 0 0, .slice none 0 0, .slice none 0 0, .slice none 0 0, .slice none 0 0, .slice none 0 0, .slice none 0 0, .slice none 0 0, .int .i64 0, .int .i64 0] (nums .i64 F).zipIdx) 58) = w2 at hd0 ⊢
    have HB2 := Aside0.mk (show Below w.heap.size w w2 from by rw [← hw2]; exact below_alloc HB1.out _)
    generalize w1.heap.size = g at hd0 ⊢
    generalize List.foldl (fun cs x => cs.setIfInBounds x.2 x.1) #[.int .i64 0, .int .i64 0, .int .i64 0, .int .i64 0, .int .i64 0, .int .i64 0, .int .i64 0, .int .i64 0, .int .i64 0, .int .i64 0, .int .i64 0, .int .i64 0, .int .i64 0, .int .i64 0, .int .i64 0, .int .i64 0, .int .i64 0, .slice none 0 0, .slice none 0 0, .slice none 0 0, .slice none 0 0, .slice none 0 0, .slice none 0 0, .slice none 0 0, .slice none 0 0, .slice none 0 0, .slice none 0 0, .slice none 0 0, .slice none 0 0, .slice none 0 0, .slice none 0 0, .slice none 0 0, .slice none 0 0, .int .i64 0, .int .i64 0] (nums .i64 F).zipIdx = CC
    have HD := Aside0.mk hd0
    clear hw2 hd0 h1 hfill hfst hnl tail
    go_loopg [7, 8, 37] l.length (fun gg _ _ v37 wr => ∃ (k : Nat) (Y : List Yr), k ≤ l.length ∧ l.length - k ≤ gg ∧ v37 = .int .i64 k ∧ Aside0 (Dec wr w.heap.size g F Y 0 0) ∧ Aside0 (∀ j y, Y[j]? = some y → y.s = symP l j k) ∧ Aside0 (Below w.heap.size w wr))
    case atStart => exact ⟨0, _, by omega, by omega, rfl, HD, ⟨fun j y hy => by
      rw [List.getElem?_replicate] at hy
      split at hy
      · obtain rfl := Option.some.inj hy
        rfl
      · cases hy⟩, HB2⟩
    case round =>
      obtain ⟨k, Y, hk, hgg, rfl, HD, HS, HB⟩ := hrel
      by_cases hlt : k < l.length
      case neg =>
        have hke : k = l.length := by omega
        subst hke
        have hd1 : decide ((l.length : Int) < (l.length : Int)) = false := decide_eq_false (by omega)
        clear hk hgg hlt
        go_wp2
        go_ret2
        exact ⟨g, Y, rfl, HD.out, HS.out, HB.out⟩
      have hd1 : decide ((k : Int) < (l.length : Int)) = true := decide_eq_true (by omega)
      have hkz : (k : Int) < (l.length : Int) := by omega
      obtain ⟨ad, e, hcell0⟩ := at_i HR.out k hlt
      cases e
      have hcell := (HB.out.cell (World.block_lt_of_cell? w _ hcell0)).trans hcell0
      have ha := isL_at HI.out k hlt
      have hsy : ∀ j, symP l j (k + 1) = if l.getD k 0 > 0 ∧ l.getD k 0 = (j : Int) then symP l j k ++ [(k : Int)] else symP l j k := fun j => rfl
      clear hcell0
      generalize l.getD k 0 = x at hcell ha hsy
      have hw2 : wrap64 ((k : Int) + 1) = ((k + 1 : Nat) : Int) := by have := HN.out; unfold wrap64; omega
      have HK := Aside0.mk hlt
      have HGG := Aside0.mk hgg
      have HW2 := Aside0.mk hw2
      have HSY := Aside0.mk hsy
      clear hgg hw2 hsy hk
      by_cases hx : x > 0
      · have dx : decide (x > 0) = true := decide_eq_true hx
        obtain ⟨y, hy⟩ : ∃ y, Y[x.toNat]? = some y := ⟨_, List.getElem?_eq_getElem (by have := HD.out.yl; omega)⟩
        have HY := Aside0.mk hy
        have HYm := Aside0.mk (List.mem_of_getElem? hy)
        have HYl := Aside0.mk (show y.s.length ≤ 1000 by rw [HS.out _ _ hy]; have := symP_len l x.toNat k; have := HN.out; omega)
        have HX := Aside0.mk (And.intro ha.1 (by omega : x < 16))
        have HXx := Aside0.mk hx
        obtain ⟨hsc, hsf⟩ := HD.out.cell x ha.1 (by omega) y hy
        have z1 : (0 ≤ x) = True := eq_true ha.1
        have z2 : (x < 16) = True := eq_true (by omega)
        clear hy ha
        go_wp2
        refine start_ (n := 15) (S := fun w' => w'.cell? ⟨g, 17 + x.toNat, none⟩ = some (yv y)) (ds := [10, 14]) #[false, false, false, false, false, false, false, false, false, false, false, false, false, false, false] (by kernel_rfl) rfl rfl hsc (fun hHeld => ?_)
        generalize hwd : wr.drew = wd at hHeld ⊢
        have HBd := Aside0.mk (show Below w.heap.size w wd from hwd ▸ below_drew HB.out)
        have HDd := Aside0.mk (show Dec wd w.heap.size g F Y 0 0 from hwd ▸ HD.out.below (below_drew (Below.refl _ _)))
        clear hwd
        refine pure_ (i := 0) (N := some 44) (v := ?_) (a' := ?_) #[true, false, false, false, false, false, false, false, false, false, false, false, false, false, false] rfl rfl (by kernel_rfl) (fun _ _ _ h => h) (Or.inl ⟨by rfl, ?_⟩) ?_ ?_
        rotate_left
        · intro w'
          go_simp
          with_reducible rfl
        rotate_left
        · simp only [Act.put, List.setIfInBounds_toArray, List.set_cons_zero, List.set_cons_succ, i64_w, i32_w]
          rfl
        refine pure_ (i := 1) (N := some 45) (v := ?_) (a' := ?_) #[true, true, false, false, false, false, false, false, false, false, false, false, false, false, false] rfl rfl (by kernel_rfl) (fun _ _ _ h => h) (Or.inl ⟨by rfl, ?_⟩) ?_ ?_
        rotate_left
        · intro w'
          go_simp
          with_reducible rfl
        rotate_left
        · simp only [Act.put, List.setIfInBounds_toArray, List.set_cons_zero, List.set_cons_succ, i64_w, i32_w]
          rfl
        refine pure_ (i := 2) (N := some 46) (v := ?_) (a' := ?_) #[true, true, true, false, false, false, false, false, false, false, false, false, false, false, false] rfl rfl (by kernel_rfl) (fun _ _ _ h => h) (Or.inl ⟨by rfl, ?_⟩) ?_ ?_
        rotate_left
        · intro w'
          go_simp
          with_reducible rfl
        rotate_left
        · simp only [Act.put, List.setIfInBounds_toArray, List.set_cons_zero, List.set_cons_succ, i64_w, i32_w]
          rfl
        refine pure_ (i := 3) (N := some 47) (v := ?_) (a' := ?_) #[true, true, true, true, false, false, false, false, false, false, false, false, false, false, false] rfl rfl (by kernel_rfl) (fun _ _ _ h => h) (Or.inl ⟨by rfl, ?_⟩) ?_ ?_
        rotate_left
        · intro w'
          go_simp
          with_reducible rfl
        rotate_left
        · simp only [Act.put, List.setIfInBounds_toArray, List.set_cons_zero, List.set_cons_succ, i64_w, i32_w]
          rfl
        refine pure_ (i := 4) (N := some 48) (v := ?_) (a' := ?_) #[true, true, true, true, true, false, false, false, false, false, false, false, false, false, false] rfl rfl (by kernel_rfl) (fun _ _ _ h => h) (Or.inl ⟨by rfl, ?_⟩) ?_ ?_
        rotate_left
        · intro w'
          go_simp
          with_reducible rfl
        rotate_left
        · simp only [Act.put, List.setIfInBounds_toArray, List.set_cons_zero, List.set_cons_succ, i64_w, i32_w]
          rfl
        refine pure_ (i := 5) (N := some 49) (v := ?_) (a' := ?_) #[true, true, true, true, true, true, false, false, false, false, false, false, false, false, false] rfl rfl (by kernel_rfl) (fun _ _ _ h => h) (Or.inl ⟨by rfl, ?_⟩) ?_ ?_
        rotate_left
        · intro w'
          go_simp
          with_reducible rfl
        rotate_left
        · simp only [Act.put, List.setIfInBounds_toArray, List.set_cons_zero, List.set_cons_succ, i64_w, i32_w]
          rfl
        refine pure_ (i := 6) (N := some 50) (v := ?_) (a' := ?_) #[true, true, true, true, true, true, true, false, false, false, false, false, false, false, false] rfl rfl (by kernel_rfl) (fun _ _ _ h => h) (Or.inl ⟨by rfl, ?_⟩) ?_ ?_
        rotate_left
        · intro w'
          go_simp
          with_reducible rfl
        rotate_left
        · simp only [Act.put, List.setIfInBounds_toArray, List.set_cons_zero, List.set_cons_succ, i64_w, i32_w]
          rfl
        refine pure_ (i := 8) (N := some 52) (v := ?_) (a' := ?_) #[true, true, true, true, true, true, true, false, true, false, false, false, false, false, false] rfl rfl (by kernel_rfl) (fun _ _ _ h => h) (Or.inl ⟨by rfl, ?_⟩) ?_ ?_
        rotate_left
        · intro w'
          go_simp
          with_reducible rfl
        rotate_left
        · simp only [Act.put, List.setIfInBounds_toArray, List.set_cons_zero, List.set_cons_succ, i64_w, i32_w]
          rfl
        refine pure_ (i := 11) (N := some 55) (v := ?_) (a' := ?_) #[true, true, true, true, true, true, true, false, true, false, false, true, false, false, false] rfl rfl (by kernel_rfl) (fun _ _ _ h => h) (Or.inl ⟨by rfl, ?_⟩) ?_ ?_
        rotate_left
        · intro w'
          go_simp
          with_reducible rfl
        rotate_left
        · simp only [Act.put, List.setIfInBounds_toArray, List.set_cons_zero, List.set_cons_succ, i64_w, i32_w]
          rfl
        refine pure_ (i := 12) (N := some 56) (v := ?_) (a' := ?_) #[true, true, true, true, true, true, true, false, true, false, false, true, true, false, false] rfl rfl (by kernel_rfl) (fun _ _ _ h => h) (Or.inl ⟨by rfl, ?_⟩) ?_ ?_
        rotate_left
        · intro w'
          go_simp
          with_reducible rfl
        rotate_left
        · simp only [Act.put, List.setIfInBounds_toArray, List.set_cons_zero, List.set_cons_succ, i64_w, i32_w]
          rfl
        refine take_ (i := 7) (N := some 51) (v := ?_) (a' := ?_) #[true, true, true, true, true, true, true, true, true, false, false, true, true, false, false] rfl rfl (by kernel_rfl) (fun _ _ _ h => h) (Or.inl ⟨by rfl, ?_⟩) hHeld ?_ ?_
        rotate_left
        · rintro w' s0
          go_simp
          with_reducible rfl
        rotate_left
        · simp only [Act.put, List.setIfInBounds_toArray, List.set_cons_zero, List.set_cons_succ, i64_w, i32_w]
          rfl
        refine one_ (i := 9) (N := some 53) #[true, true, true, true, true, true, true, true, true, true, false, true, true, false, false] rfl rfl (by kernel_rfl) (by decide) (fun K hK => ?_)
        refine value_ (w1 := ?_) (v := ?_) (by rfl) rfl ?_ ?_
        rotate_left 2
        · go_simp
          constructor
          · rfl
          · rfl
        refine hK.out _ _ ((HDd.out.below (below_alloc (Below.refl _ _) _)).cell x HX.out.1 HX.out.2 y HY.out).1 (fun hHeld => ?_)
        clear hK K
        refine norm_ (a' := ?_) ?_ ?_
        rotate_left
        · show Act.put _ (some 53) _ = _
          simp only [Act.put, List.setIfInBounds_toArray, List.set_cons_zero, List.set_cons_succ, i64_w, i32_w]
          rfl
        refine last_ (i := 10) (N := some 54) #[true, true, true, true, true, true, true, true, true, true, true, true, true, false, false] rfl rfl (by kernel_rfl) (by decide) (fun K hK => ?_)
        refine Kd.R_append_step (Kd.int .i64) (w0 := w) w.heap.size (by rfl) (.tmp 51) (.tmp 53) 22 3 (.int .i64 0) 8 rfl Try.underlying22 inf3 rfl (by decide) (by omega) (yv y) y.s (k : Int) [.int .i64 (k : Int)] (fun j => j ≠ g) (fun _ => False) rfl rfl ?aP (fun _ hk => hk.elim) ?aF ?aO ?aB ?aS ?aL ?_
        (case aP => exact rfl)
        (case aB => exact HBd.out)
        (case aF => exact (fun j hj => by have := HDd.out.lt; omega))
        (case aO => exact HDd.out.row y HYm.out)
        (case aS => exact below_size HBd.out)
        (case aL => have := HYl.out; omega)
        intro v5 w5 ho hb hg5 hat
        obtain ⟨a5, c5, e5⟩ := Kd.R_slice ho
        subst e5
        have HD5 := Aside0.mk (HDd.out.grow y x HX.out.1 HX.out.2 HY.out (k : Int) a5 c5 ho hg5 hat)
        have HB5 := Aside0.mk hb
        clear ho hb hg5 hat
        refine hK.out _ _ ?_
        clear hK K
        refine norm_ (a' := ?_) ?_ ?_
        rotate_left
        · show Act.put _ (some 54) _ = _
          simp only [Act.put, List.setIfInBounds_toArray, List.set_cons_zero, List.set_cons_succ, i64_w, i32_w]
          rfl
        refine pure_ (i := 13) (N := some 57) (v := ?_) (a' := ?_) #[true, true, true, true, true, true, true, true, true, true, true, true, true, true, false] rfl rfl (by kernel_rfl) (fun _ _ _ h => h) (Or.inl ⟨by rfl, ?_⟩) ?_ ?_
        rotate_left
        · intro w'
          go_simp
          with_reducible rfl
        rotate_left
        · simp only [Act.put, List.setIfInBounds_toArray, List.set_cons_zero, List.set_cons_succ, i64_w, i32_w]
          rfl
        refine last_ (i := 14) (N := none) #[true, true, true, true, true, true, true, true, true, true, true, true, true, true, true] rfl rfl (by kernel_rfl) (by decide) (fun K hK => ?_)
        refine skip_ (w1 := w5.setCell ⟨g, 17 + x.toNat, none⟩ (.slice a5 (y.s ++ [(k : Int)]).length c5)) (by rfl) rfl ?_ ?_
        · obtain ⟨q1, q2⟩ := HD5.out.2
          go_simp
          try rfl
        refine hK.out _ _ ?_
        clear hK K
        refine done_ (by kernel_rfl) ?_
        have hw2 := HW2.out
        clear z1 z2 hsc hsf hkz hd1 dx
        go_wp2
        clear hw2
        go_roundg (l.length - (k + 1))
        case measure => have := HK.out; have := HGG.out; omega
        case rel =>
          have h1 := HK.out
          refine ⟨k + 1, _, by omega, by omega, by first | rw [HW2.out] | go_num, ⟨by have h := HD5.out.1; rw [List.length_append] at h; exact h⟩, ⟨fun j q hq => ?_⟩, ⟨HB5.out.setCell (by show w.heap.size ≤ g; exact HD.out.gb) _⟩⟩
          rw [HSY.out j]
          rw [List.getElem?_set] at hq
          have hxl : x.toNat < Y.length := (List.getElem?_eq_some_iff.1 HY.out).1
          by_cases hjx : x.toNat = j
          · rw [if_pos hjx, if_pos hxl] at hq
            obtain rfl := Option.some.inj hq
            rw [if_pos ⟨HXx.out, by omega⟩, ← HS.out j y (hjx ▸ HY.out)]
          · rw [if_neg hjx] at hq
            rw [if_neg (by have := HXx.out; omega), HS.out j q hq]
      · have dx : decide (x > 0) = false := decide_eq_false hx
        have HXx := Aside0.mk hx
        have hw2 := HW2.out
        clear ha
        go_wp2
        clear hw2
        go_roundg (l.length - (k + 1))
        case measure => have := HK.out; have := HGG.out; omega
        case rel =>
          have h1 := HK.out
          refine ⟨k + 1, Y, by omega, by omega, by first | rw [HW2.out] | go_num, HD, ⟨fun j q hq => ?_⟩, HB⟩
          rw [HSY.out j, if_neg (by have := HXx.out; omega), HS.out j q hq]
  have d2 : decide (p.2 > 0) = true := decide_eq_true c2
  have c3 : ¬ p.2 > 1 ∧ p.1 = 16384 := by
    rw [decide_eq_false c1, decide_eq_false (by omega : ¬ p.2 ≤ 0)] at hm
    simp at hm
    omega
  have d3 : decide (p.2 > 1) = false := decide_eq_false c3.1
  have d4 : (p.1 != 16384) = false := by simp [c3.2]
  have d4' : (p.1 == 16384) = true := by simp [c3.2]
  clear hm c1 c2 c3
  go_enter Try.func23, Try.ntmps23
  go_wp2_with (first | (go_at_call 27; refine h1.mono ?_; rintro e w' ⟨rfl, hw'⟩; subst w') | (go_at_call 28; refine hfill.mono ?_; rintro e w' ⟨rfl, hw'⟩; subst w') | (go_at_call 29; refine hfst.mono ?_; rintro e w1 ⟨rfl, hb1⟩; have HB1 := Aside0.mk hb1; clear hb1))
  have hd0 := dec_new w1 w.heap.size F HFl.out HB1.out.size
  generalize hw2 : w1.alloc (.cells (List.foldl (fun cs x => cs.setIfInBounds x.2 x.1) #[.int .i64 0, .int .i64 0, .int .i64 0, .int .i64 0, .int .i64 0, .int .i64 0, .int .i64 0, .int .i64 0, .int .i64 0, .int .i64 0, .int .i64 0, .int .i64 0, .int .i64 0, .int .i64 0, .int .i64 0, .int .i64 0, .int .i64 0, .slice none 0 0, .slice none 0 0, .slice none 0 0, .slice none 0 0, .slice none 0 0, .slice none 0 0, .slice none 0 0, .slice none 0 0, .slice none 0 0, .slice none 0 0, .slice none 0 0, .slice none 0 0, .slice none 0 0, .slice none 0 0, .slice none 0 0, .slice none 0 0, .int .i64 0, .int .i64 0] (nums .i64 F).zipIdx) 58) = w2 at hd0 ⊢
  have HB2 := Aside0.mk (show Below w.heap.size w w2 from by rw [← hw2]; exact below_alloc HB1.out _)
  generalize w1.heap.size = g at hd0 ⊢
  generalize List.foldl (fun cs x => cs.setIfInBounds x.2 x.1) #[.int .i64 0, .int .i64 0, .int .i64 0, .int .i64 0, .int .i64 0, .int .i64 0, .int .i64 0, .int .i64 0, .int .i64 0, .int .i64 0, .int .i64 0, .int .i64 0, .int .i64 0, .int .i64 0, .int .i64 0, .int .i64 0, .int .i64 0, .slice none 0 0, .slice none 0 0, .slice none 0 0, .slice none 0 0, .slice none 0 0, .slice none 0 0, .slice none 0 0, .slice none 0 0, .slice none 0 0, .slice none 0 0, .slice none 0 0, .slice none 0 0, .slice none 0 0, .slice none 0 0, .slice none 0 0, .slice none 0 0, .int .i64 0, .int .i64 0] (nums .i64 F).zipIdx = CC
  have HD := Aside0.mk hd0
  clear hw2 hd0 h1 hfill hfst hnl tail
  go_loopg [7, 8, 37] l.length (fun gg _ _ v37 wr => ∃ (k : Nat) (Y : List Yr), k ≤ l.length ∧ l.length - k ≤ gg ∧ v37 = .int .i64 k ∧ Aside0 (Dec wr w.heap.size g F Y 0 0) ∧ Aside0 (∀ j y, Y[j]? = some y → y.s = symP l j k) ∧ Aside0 (Below w.heap.size w wr))
  case atStart => exact ⟨0, _, by omega, by omega, rfl, HD, ⟨fun j y hy => by
    rw [List.getElem?_replicate] at hy
    split at hy
    · obtain rfl := Option.some.inj hy
      rfl
    · cases hy⟩, HB2⟩
  case round =>
    obtain ⟨k, Y, hk, hgg, rfl, HD, HS, HB⟩ := hrel
    by_cases hlt : k < l.length
    case neg =>
      have hke : k = l.length := by omega
      subst hke
      have hd1 : decide ((l.length : Int) < (l.length : Int)) = false := decide_eq_false (by omega)
      clear hk hgg hlt
      go_wp2
      go_ret2
      exact ⟨g, Y, rfl, HD.out, HS.out, HB.out⟩
    have hd1 : decide ((k : Int) < (l.length : Int)) = true := decide_eq_true (by omega)
    have hkz : (k : Int) < (l.length : Int) := by omega
    obtain ⟨ad, e, hcell0⟩ := at_i HR.out k hlt
    cases e
    have hcell := (HB.out.cell (World.block_lt_of_cell? w _ hcell0)).trans hcell0
    have ha := isL_at HI.out k hlt
    have hsy : ∀ j, symP l j (k + 1) = if l.getD k 0 > 0 ∧ l.getD k 0 = (j : Int) then symP l j k ++ [(k : Int)] else symP l j k := fun j => rfl
    clear hcell0
    generalize l.getD k 0 = x at hcell ha hsy
    have hw2 : wrap64 ((k : Int) + 1) = ((k + 1 : Nat) : Int) := by have := HN.out; unfold wrap64; omega
    have HK := Aside0.mk hlt
    have HGG := Aside0.mk hgg
    have HW2 := Aside0.mk hw2
    have HSY := Aside0.mk hsy
    clear hgg hw2 hsy hk
    by_cases hx : x > 0
    · have dx : decide (x > 0) = true := decide_eq_true hx
      obtain ⟨y, hy⟩ : ∃ y, Y[x.toNat]? = some y := ⟨_, List.getElem?_eq_getElem (by have := HD.out.yl; omega)⟩
      have HY := Aside0.mk hy
      have HYm := Aside0.mk (List.mem_of_getElem? hy)
      have HYl := Aside0.mk (show y.s.length ≤ 1000 by rw [HS.out _ _ hy]; have := symP_len l x.toNat k; have := HN.out; omega)
      have HX := Aside0.mk (And.intro ha.1 (by omega : x < 16))
      have HXx := Aside0.mk hx
      obtain ⟨hsc, hsf⟩ := HD.out.cell x ha.1 (by omega) y hy
      have z1 : (0 ≤ x) = True := eq_true ha.1
      have z2 : (x < 16) = True := eq_true (by omega)
      clear hy ha
      go_wp2
      refine start_ (n := 15) (S := fun w' => w'.cell? ⟨g, 17 + x.toNat, none⟩ = some (yv y)) (ds := [10, 14]) #[false, false, false, false, false, false, false, false, false, false, false, false, false, false, false] (by kernel_rfl) rfl rfl hsc (fun hHeld => ?_)
      generalize hwd : wr.drew = wd at hHeld ⊢
      have HBd := Aside0.mk (show Below w.heap.size w wd from hwd ▸ below_drew HB.out)
      have HDd := Aside0.mk (show Dec wd w.heap.size g F Y 0 0 from hwd ▸ HD.out.below (below_drew (Below.refl _ _)))
      clear hwd
      refine pure_ (i := 0) (N := some 44) (v := ?_) (a' := ?_) #[true, false, false, false, false, false, false, false, false, false, false, false, false, false, false] rfl rfl (by kernel_rfl) (fun _ _ _ h => h) (Or.inl ⟨by rfl, ?_⟩) ?_ ?_
      rotate_left
      · intro w'
        go_simp
        with_reducible rfl
      rotate_left
      · simp only [Act.put, List.setIfInBounds_toArray, List.set_cons_zero, List.set_cons_succ, i64_w, i32_w]
        rfl
      refine pure_ (i := 1) (N := some 45) (v := ?_) (a' := ?_) #[true, true, false, false, false, false, false, false, false, false, false, false, false, false, false] rfl rfl (by kernel_rfl) (fun _ _ _ h => h) (Or.inl ⟨by rfl, ?_⟩) ?_ ?_
      rotate_left
      · intro w'
        go_simp
        with_reducible rfl
      rotate_left
      · simp only [Act.put, List.setIfInBounds_toArray, List.set_cons_zero, List.set_cons_succ, i64_w, i32_w]
        rfl
      refine pure_ (i := 2) (N := some 46) (v := ?_) (a' := ?_) #[true, true, true, false, false, false, false, false, false, false, false, false, false, false, false] rfl rfl (by kernel_rfl) (fun _ _ _ h => h) (Or.inl ⟨by rfl, ?_⟩) ?_ ?_
      rotate_left
      · intro w'
        go_simp
        with_reducible rfl
      rotate_left
      · simp only [Act.put, List.setIfInBounds_toArray, List.set_cons_zero, List.set_cons_succ, i64_w, i32_w]
        rfl
      refine pure_ (i := 3) (N := some 47) (v := ?_) (a' := ?_) #[true, true, true, true, false, false, false, false, false, false, false, false, false, false, false] rfl rfl (by kernel_rfl) (fun _ _ _ h => h) (Or.inl ⟨by rfl, ?_⟩) ?_ ?_
      rotate_left
      · intro w'
        go_simp
        with_reducible rfl
      rotate_left
      · simp only [Act.put, List.setIfInBounds_toArray, List.set_cons_zero, List.set_cons_succ, i64_w, i32_w]
        rfl
      refine pure_ (i := 4) (N := some 48) (v := ?_) (a' := ?_) #[true, true, true, true, true, false, false, false, false, false, false, false, false, false, false] rfl rfl (by kernel_rfl) (fun _ _ _ h => h) (Or.inl ⟨by rfl, ?_⟩) ?_ ?_
      rotate_left
      · intro w'
        go_simp
        with_reducible rfl
      rotate_left
      · simp only [Act.put, List.setIfInBounds_toArray, List.set_cons_zero, List.set_cons_succ, i64_w, i32_w]
        rfl
      refine pure_ (i := 5) (N := some 49) (v := ?_) (a' := ?_) #[true, true, true, true, true, true, false, false, false, false, false, false, false, false, false] rfl rfl (by kernel_rfl) (fun _ _ _ h => h) (Or.inl ⟨by rfl, ?_⟩) ?_ ?_
      rotate_left
      · intro w'
        go_simp
        with_reducible rfl
      rotate_left
      · simp only [Act.put, List.setIfInBounds_toArray, List.set_cons_zero, List.set_cons_succ, i64_w, i32_w]
        rfl
      refine pure_ (i := 6) (N := some 50) (v := ?_) (a' := ?_) #[true, true, true, true, true, true, true, false, false, false, false, false, false, false, false] rfl rfl (by kernel_rfl) (fun _ _ _ h => h) (Or.inl ⟨by rfl, ?_⟩) ?_ ?_
      rotate_left
      · intro w'
        go_simp
        with_reducible rfl
      rotate_left
      · simp only [Act.put, List.setIfInBounds_toArray, List.set_cons_zero, List.set_cons_succ, i64_w, i32_w]
        rfl
      refine pure_ (i := 8) (N := some 52) (v := ?_) (a' := ?_) #[true, true, true, true, true, true, true, false, true, false, false, false, false, false, false] rfl rfl (by kernel_rfl) (fun _ _ _ h => h) (Or.inl ⟨by rfl, ?_⟩) ?_ ?_
      rotate_left
      · intro w'
        go_simp
        with_reducible rfl
      rotate_left
      · simp only [Act.put, List.setIfInBounds_toArray, List.set_cons_zero, List.set_cons_succ, i64_w, i32_w]
        rfl
      refine pure_ (i := 11) (N := some 55) (v := ?_) (a' := ?_) #[true, true, true, true, true, true, true, false, true, false, false, true, false, false, false] rfl rfl (by kernel_rfl) (fun _ _ _ h => h) (Or.inl ⟨by rfl, ?_⟩) ?_ ?_
      rotate_left
      · intro w'
        go_simp
        with_reducible rfl
      rotate_left
      · simp only [Act.put, List.setIfInBounds_toArray, List.set_cons_zero, List.set_cons_succ, i64_w, i32_w]
        rfl
      refine pure_ (i := 12) (N := some 56) (v := ?_) (a' := ?_) #[true, true, true, true, true, true, true, false, true, false, false, true, true, false, false] rfl rfl (by kernel_rfl) (fun _ _ _ h => h) (Or.inl ⟨by rfl, ?_⟩) ?_ ?_
      rotate_left
      · intro w'
        go_simp
        with_reducible rfl
      rotate_left
      · simp only [Act.put, List.setIfInBounds_toArray, List.set_cons_zero, List.set_cons_succ, i64_w, i32_w]
        rfl
      refine take_ (i := 7) (N := some 51) (v := ?_) (a' := ?_) #[true, true, true, true, true, true, true, true, true, false, false, true, true, false, false] rfl rfl (by kernel_rfl) (fun _ _ _ h => h) (Or.inl ⟨by rfl, ?_⟩) hHeld ?_ ?_
      rotate_left
      · rintro w' s0
        go_simp
        with_reducible rfl
      rotate_left
      · simp only [Act.put, List.setIfInBounds_toArray, List.set_cons_zero, List.set_cons_succ, i64_w, i32_w]
        rfl
      refine one_ (i := 9) (N := some 53) #[true, true, true, true, true, true, true, true, true, true, false, true, true, false, false] rfl rfl (by kernel_rfl) (by decide) (fun K hK => ?_)
      refine value_ (w1 := ?_) (v := ?_) (by rfl) rfl ?_ ?_
      rotate_left 2
      · go_simp
        constructor
        · rfl
        · rfl
      refine hK.out _ _ ((HDd.out.below (below_alloc (Below.refl _ _) _)).cell x HX.out.1 HX.out.2 y HY.out).1 (fun hHeld => ?_)
      clear hK K
      refine norm_ (a' := ?_) ?_ ?_
      rotate_left
      · show Act.put _ (some 53) _ = _
        simp only [Act.put, List.setIfInBounds_toArray, List.set_cons_zero, List.set_cons_succ, i64_w, i32_w]
        rfl
      refine last_ (i := 10) (N := some 54) #[true, true, true, true, true, true, true, true, true, true, true, true, true, false, false] rfl rfl (by kernel_rfl) (by decide) (fun K hK => ?_)
      refine Kd.R_append_step (Kd.int .i64) (w0 := w) w.heap.size (by rfl) (.tmp 51) (.tmp 53) 22 3 (.int .i64 0) 8 rfl Try.underlying22 inf3 rfl (by decide) (by omega) (yv y) y.s (k : Int) [.int .i64 (k : Int)] (fun j => j ≠ g) (fun _ => False) rfl rfl ?aP (fun _ hk => hk.elim) ?aF ?aO ?aB ?aS ?aL ?_
      (case aP => exact rfl)
      (case aB => exact HBd.out)
      (case aF => exact (fun j hj => by have := HDd.out.lt; omega))
      (case aO => exact HDd.out.row y HYm.out)
      (case aS => exact below_size HBd.out)
      (case aL => have := HYl.out; omega)
      intro v5 w5 ho hb hg5 hat
      obtain ⟨a5, c5, e5⟩ := Kd.R_slice ho
      subst e5
      have HD5 := Aside0.mk (HDd.out.grow y x HX.out.1 HX.out.2 HY.out (k : Int) a5 c5 ho hg5 hat)
      have HB5 := Aside0.mk hb
      clear ho hb hg5 hat
      refine hK.out _ _ ?_
      clear hK K
      refine norm_ (a' := ?_) ?_ ?_
      rotate_left
      · show Act.put _ (some 54) _ = _
        simp only [Act.put, List.setIfInBounds_toArray, List.set_cons_zero, List.set_cons_succ, i64_w, i32_w]
        rfl
      refine pure_ (i := 13) (N := some 57) (v := ?_) (a' := ?_) #[true, true, true, true, true, true, true, true, true, true, true, true, true, true, false] rfl rfl (by kernel_rfl) (fun _ _ _ h => h) (Or.inl ⟨by rfl, ?_⟩) ?_ ?_
      rotate_left
      · intro w'
        go_simp
        with_reducible rfl
      rotate_left
      · simp only [Act.put, List.setIfInBounds_toArray, List.set_cons_zero, List.set_cons_succ, i64_w, i32_w]
        rfl
      refine last_ (i := 14) (N := none) #[true, true, true, true, true, true, true, true, true, true, true, true, true, true, true] rfl rfl (by kernel_rfl) (by decide) (fun K hK => ?_)
      refine skip_ (w1 := w5.setCell ⟨g, 17 + x.toNat, none⟩ (.slice a5 (y.s ++ [(k : Int)]).length c5)) (by rfl) rfl ?_ ?_
      · obtain ⟨q1, q2⟩ := HD5.out.2
        go_simp
        try rfl
      refine hK.out _ _ ?_
      clear hK K
      refine done_ (by kernel_rfl) ?_
      have hw2 := HW2.out
      clear z1 z2 hsc hsf hkz hd1 dx
      go_wp2
      clear hw2
      go_roundg (l.length - (k + 1))
      case measure => have := HK.out; have := HGG.out; omega
      case rel =>
        have h1 := HK.out
        refine ⟨k + 1, _, by omega, by omega, by first | rw [HW2.out] | go_num, ⟨by have h := HD5.out.1; rw [List.length_append] at h; exact h⟩, ⟨fun j q hq => ?_⟩, ⟨HB5.out.setCell (by show w.heap.size ≤ g; exact HD.out.gb) _⟩⟩
        rw [HSY.out j]
        rw [List.getElem?_set] at hq
        have hxl : x.toNat < Y.length := (List.getElem?_eq_some_iff.1 HY.out).1
        by_cases hjx : x.toNat = j
        · rw [if_pos hjx, if_pos hxl] at hq
          obtain rfl := Option.some.inj hq
          rw [if_pos ⟨HXx.out, by omega⟩, ← HS.out j y (hjx ▸ HY.out)]
        · rw [if_neg hjx] at hq
          rw [if_neg (by have := HXx.out; omega), HS.out j q hq]
    · have dx : decide (x > 0) = false := decide_eq_false hx
      have HXx := Aside0.mk hx
      have hw2 := HW2.out
      clear ha
      go_wp2
      clear hw2
      go_roundg (l.length - (k + 1))
      case measure => have := HK.out; have := HGG.out; omega
      case rel =>
        have h1 := HK.out
        refine ⟨k + 1, Y, by omega, by omega, by first | rw [HW2.out] | go_num, HD, ⟨fun j q hq => ?_⟩, HB⟩
        rw [HSY.out j, if_neg (by have := HXx.out; omega), HS.out j q hq]
end Go.Proofs.Ytachnclfgjdglaa.Coin
