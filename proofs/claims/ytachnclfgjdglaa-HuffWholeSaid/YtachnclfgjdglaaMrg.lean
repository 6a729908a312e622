/- Two rows in order made one, and the stable order of a whole out of that of its parts. Plain law; no conditions but those that each theorem says. -/
import Derived.Test.YtachnclfgjdglaaSrt
namespace Go.Proofs.YtachnclfgjdglaaSrt
set_option linter.unusedVariables false
set_option linter.unusedSimpArgs false
variable {α : Type} (key : α → Int)

def kl (x y : α) : Bool := decide (key x < key y)
/-- a row that rises -/
def St (l : List α) : Prop := l.Pairwise (fun x y => key x ≤ key y)
/-- those of one key -/
def fl (k : Int) (l : List α) : List α := l.filter (fun x => decide (key x = k))
/-- two rows that rise as one; what is equal: the first row's first -/
def mrg : List α → List α → List α
  | [], B => B
  | a :: A, [] => a :: A
  | a :: A, b :: B => if key b < key a then b :: mrg (a :: A) B else a :: mrg A (b :: B)
termination_by A B => A.length + B.length
theorem fl_append (k : Int) (l m : List α) : fl key k (l ++ m) = fl key k l ++ fl key k m := List.filter_append ..
theorem fl_nil (k : Int) : fl key k [] = [] := rfl
theorem fl_cons (k : Int) (x : α) (l : List α) : fl key k (x :: l) = if key x = k then x :: fl key k l else fl key k l := by
  unfold fl
  rw [List.filter_cons]
  by_cases h : key x = k
  · rw [if_pos h, if_pos (by simpa using h)]
  · rw [if_neg h, if_neg (by simpa using h)]
theorem fl_none (k : Int) (l : List α) (h : ∀ x ∈ l, key x ≠ k) : fl key k l = [] := List.filter_eq_nil_iff.2 (fun x hx => by simpa using h x hx)
theorem mem_fl (k : Int) (x : α) (l : List α) : x ∈ fl key k l ↔ x ∈ l ∧ key x = k := by unfold fl; rw [List.mem_filter]; simp
theorem mem_of_fl {l m : List α} (h : ∀ k, fl key k l = fl key k m) (x : α) : x ∈ l → x ∈ m := fun hx => ((mem_fl key (key x) x m).1 (h (key x) ▸ (mem_fl key (key x) x l).2 ⟨hx, rfl⟩)).1
theorem st_cons (x : α) (l : List α) : St key (x :: l) ↔ (∀ y ∈ l, key x ≤ key y) ∧ St key l := List.pairwise_cons
theorem st_append (l m : List α) : St key (l ++ m) ↔ St key l ∧ St key m ∧ ∀ x ∈ l, ∀ y ∈ m, key x ≤ key y := List.pairwise_append
/-- rows that rise are one row, if those of each key are -/
theorem st_uniq : ∀ l m : List α, St key l → St key m → (∀ k, fl key k l = fl key k m) → l = m
  | [], [], _, _, _ => rfl
  | [], y :: m, _, _, h => by
    have := h (key y)
    rw [fl_nil, fl_cons, if_pos rfl] at this
    cases this
  | x :: l, [], _, _, h => by
    have := h (key x)
    rw [fl_nil, fl_cons, if_pos rfl] at this
    cases this
  | x :: l, y :: m, hl, hm, h => by
    rw [st_cons] at hl hm
    have h1 : key y ≤ key x := by
      rcases List.mem_cons.1 (mem_of_fl key h x (List.mem_cons_self ..)) with e | e
      · rw [e]; exact Int.le_refl _
      · exact hm.1 x e
    have h2 : key x ≤ key y := by
      rcases List.mem_cons.1 (mem_of_fl key (fun k => (h k).symm) y (List.mem_cons_self ..)) with e | e
      · rw [e]; exact Int.le_refl _
      · exact hl.1 y e
    have he : key x = key y := by omega
    have h0 := h (key x)
    rw [fl_cons, if_pos rfl, fl_cons, if_pos he.symm] at h0
    injection h0 with e1 _
    subst e1
    rw [st_uniq l m hl.2 hm.2 (fun k => by
      have := h k
      rw [fl_cons, fl_cons] at this
      by_cases hk : key x = k
      · rw [if_pos hk, if_pos hk] at this
        injection this
      · rwa [if_neg hk, if_neg hk] at this)]
theorem mrg_nil (A : List α) : mrg key A [] = A := by cases A <;> rw [mrg]
theorem nil_mrg (B : List α) : mrg key [] B = B := by rw [mrg]
theorem mrg_perm : ∀ A B : List α, (mrg key A B).Perm (A ++ B)
  | [], B => by rw [mrg]; exact .refl _
  | a :: A, [] => by rw [mrg, List.append_nil]
  | a :: A, b :: B => by
    rw [mrg]
    split
    · exact ((mrg_perm (a :: A) B).cons b).trans List.perm_middle.symm
    · exact (mrg_perm A (b :: B)).cons a
termination_by A B => A.length + B.length
theorem mrg_length (A B : List α) : (mrg key A B).length = A.length + B.length := by rw [(mrg_perm key A B).length_eq, List.length_append]
theorem mem_mrg {x : α} {A B : List α} : x ∈ mrg key A B ↔ x ∈ A ∨ x ∈ B := by rw [(mrg_perm key A B).mem_iff, List.mem_append]
theorem mrg_st : ∀ A B : List α, St key A → St key B → St key (mrg key A B)
  | [], B, _, hB => by rw [mrg]; exact hB
  | a :: A, [], hA, _ => by rw [mrg]; exact hA
  | a :: A, b :: B, hA, hB => by
    rw [mrg]
    have hA' := (st_cons key a A).1 hA
    have hB' := (st_cons key b B).1 hB
    split
    case isTrue h =>
      rw [st_cons]
      refine ⟨fun y hy => ?_, mrg_st (a :: A) B hA hB'.2⟩
      rcases (mem_mrg key).1 hy with hy | hy
      · rcases List.mem_cons.1 hy with rfl | hy
        · omega
        · have := hA'.1 y hy
          omega
      · exact hB'.1 y hy
    case isFalse h =>
      rw [st_cons]
      refine ⟨fun y hy => ?_, mrg_st A (b :: B) hA'.2 hB⟩
      rcases (mem_mrg key).1 hy with hy | hy
      · exact hA'.1 y hy
      · rcases List.mem_cons.1 hy with rfl | hy
        · omega
        · have := hB'.1 y hy
          omega
termination_by A B => A.length + B.length
theorem mrg_fl (k : Int) : ∀ A B : List α, St key A → St key B → fl key k (mrg key A B) = fl key k A ++ fl key k B
  | [], B, _, hB => by rw [mrg, fl_nil, List.nil_append]
  | a :: A, [], hA, _ => by rw [mrg, fl_nil, List.append_nil]
  | a :: A, b :: B, hA, hB => by
    rw [mrg]
    have hA' := (st_cons key a A).1 hA
    have hB' := (st_cons key b B).1 hB
    split
    case isTrue h =>
      rw [fl_cons, mrg_fl k (a :: A) B hA hB'.2, fl_cons key k b B]
      by_cases hk : key b = k
      · rw [if_pos hk, if_pos hk, fl_none key k (a :: A) (fun x hx => by
          rcases List.mem_cons.1 hx with rfl | hx
          · omega
          · have := hA'.1 x hx
            omega)]
        rfl
      · rw [if_neg hk, if_neg hk]
    case isFalse h =>
      rw [fl_cons, mrg_fl k A (b :: B) hA'.2 hB, fl_cons key k a A]
      split <;> rfl
termination_by A B => A.length + B.length
/-! ### the stable order -/
theorem rI_st (x : α) : ∀ q : List α, St key q.reverse → St key (rI (kl key) x q).reverse
  | [], _ => by rw [rI]; exact List.pairwise_singleton ..
  | y :: q, h => by
    rw [List.reverse_cons, st_append] at h
    rw [rI]
    by_cases hk : key x < key y
    · rw [if_pos (by simpa [kl] using hk), List.reverse_cons, st_append]
      refine ⟨rI_st x q h.1, h.2.1, fun z hz w hw => ?_⟩
      rw [List.mem_reverse] at hz
      have hw : w = y := by simpa using hw
      rw [hw]
      rcases List.mem_cons.1 ((rI_perm (kl key) x q).mem_iff.1 hz) with rfl | hz
      · omega
      · exact h.2.2 z (by simpa using hz) y (by simp)
    · rw [if_neg (by simpa [kl] using hk), List.reverse_cons, st_append, List.reverse_cons]
      refine ⟨(st_append key _ _).2 h, List.pairwise_singleton .., fun z hz w hw => ?_⟩
      have hw : w = x := by simpa using hw
      rw [hw]
      rcases List.mem_append.1 hz with hz | hz
      · have := h.2.2 z hz y (by simp)
        omega
      · have hz : z = y := by simpa using hz
        rw [hz]
        omega
theorem rI_fl (k : Int) (x : α) : ∀ q : List α, fl key k (rI (kl key) x q).reverse = fl key k q.reverse ++ fl key k [x]
  | [] => rfl
  | y :: q => by
    rw [rI]
    by_cases hk : key x < key y
    · rw [if_pos (by simpa [kl] using hk), List.reverse_cons, fl_append, rI_fl k x q, List.reverse_cons, fl_append, List.append_assoc, List.append_assoc]
      congr 1
      rw [fl_cons, fl_cons, fl_nil]
      by_cases h1 : key x = k
      · rw [if_pos h1, if_neg (by omega)]
        rfl
      · rw [if_neg h1, List.append_nil]
        rfl
    · rw [if_neg (by simpa [kl] using hk), List.reverse_cons, fl_append]
theorem sr_st : ∀ l acc : List α, St key acc.reverse → St key (sr (kl key) l acc).reverse
  | [], acc, h => h
  | x :: t, acc, h => by rw [sr]; exact sr_st t _ (rI_st key x acc h)
theorem sr_fl (k : Int) : ∀ l acc : List α, fl key k (sr (kl key) l acc).reverse = fl key k acc.reverse ++ fl key k l
  | [], acc => by rw [sr, fl_nil, List.append_nil]
  | x :: t, acc => by
    rw [sr, sr_fl k t, rI_fl, List.append_assoc, ← fl_append]
    rfl
theorem srt_st (l : List α) : St key (srt (kl key) l) := sr_st key l [] List.Pairwise.nil
theorem srt_fl (k : Int) (l : List α) : fl key k (srt (kl key) l) = fl key k l := by
  rw [srt, sr_fl]
  rfl
theorem srt_of_st (l : List α) (h : St key l) : srt (kl key) l = l := st_uniq key _ _ (srt_st key l) h (fun k => srt_fl key k l)
theorem srt_append (l m : List α) : srt (kl key) (l ++ m) = mrg key (srt (kl key) l) (srt (kl key) m) :=
  st_uniq key _ _ (srt_st key _) (mrg_st key _ _ (srt_st key l) (srt_st key m)) (fun k => by rw [srt_fl, mrg_fl key k _ _ (srt_st key l) (srt_st key m), srt_fl, srt_fl, fl_append])
/-- two rows cut in two, each behind what belongs ahead -/
theorem mrg_cut (A1 A2 B1 B2 : List α) (hA : St key (A1 ++ A2)) (hB : St key (B1 ++ B2)) (h1 : ∀ x ∈ A1, ∀ y ∈ B2, key x ≤ key y) (h2 : ∀ x ∈ B1, ∀ y ∈ A2, key x < key y) :
    mrg key (A1 ++ A2) (B1 ++ B2) = mrg key A1 B1 ++ mrg key A2 B2 := by
  obtain ⟨a1, a2, a3⟩ := (st_append key _ _).1 hA
  obtain ⟨b1, b2, b3⟩ := (st_append key _ _).1 hB
  refine st_uniq key _ _ (mrg_st key _ _ hA hB) ?_ (fun k => ?_)
  · rw [st_append]
    refine ⟨mrg_st key _ _ a1 b1, mrg_st key _ _ a2 b2, fun x hx y hy => ?_⟩
    rcases (mem_mrg key).1 hx with hx | hx <;> rcases (mem_mrg key).1 hy with hy | hy
    · exact a3 x hx y hy
    · exact h1 x hx y hy
    · exact Int.le_of_lt (h2 x hx y hy)
    · exact b3 x hx y hy
  · rw [mrg_fl key k _ _ hA hB, fl_append, fl_append, fl_append, mrg_fl key k _ _ a1 b1, mrg_fl key k _ _ a2 b2]
    have : fl key k A2 ++ fl key k B1 = fl key k B1 ++ fl key k A2 := by
      by_cases h : ∃ x ∈ A2, key x = k
      · obtain ⟨x, hx, hk⟩ := h
        rw [fl_none key k B1 (fun y hy => by have := h2 y hy x hx; omega)]
        simp
      · rw [fl_none key k A2 (fun y hy e => h ⟨y, hy, e⟩)]
        simp
    simp only [List.append_assoc]
    rw [← List.append_assoc (fl key k A2), this, List.append_assoc]
theorem mrg_one_l (x : α) (B1 B2 : List α) (hB : St key (B1 ++ B2)) (h1 : ∀ y ∈ B1, key y < key x) (h2 : ∀ y ∈ B2, key x ≤ key y) : mrg key [x] (B1 ++ B2) = B1 ++ x :: B2 := by
  have := mrg_cut key [] [x] B1 B2 (List.pairwise_singleton ..) hB (fun _ h => by cases h) (fun y hy z hz => by
    have hz : z = x := by simpa using hz
    rw [hz]; exact h1 y hy)
  rw [List.nil_append] at this
  rw [this, nil_mrg]
  congr 1
  cases B2 with
  | nil => rw [mrg]
  | cons b B2 => rw [mrg, if_neg (by have := h2 b (List.mem_cons_self ..); omega), nil_mrg]
theorem mrg_one_r (x : α) (A1 A2 : List α) (hA : St key (A1 ++ A2)) (h1 : ∀ y ∈ A1, key y ≤ key x) (h2 : ∀ y ∈ A2, key x < key y) : mrg key (A1 ++ A2) [x] = A1 ++ x :: A2 := by
  have := mrg_cut key A1 A2 [] [x] hA (List.pairwise_singleton ..) (fun y hy z hz => by
    have hz : z = x := by simpa using hz
    rw [hz]; exact h1 y hy) (fun _ h => by cases h)
  rw [List.nil_append] at this
  rw [this, mrg_nil]
  congr 1
  cases A2 with
  | nil => rw [mrg]
  | cons b B2 => rw [mrg, if_pos (h2 b (List.mem_cons_self ..)), mrg_nil]
/-- a row that rises: all ahead of a place are no greater than its own, all behind no less -/
theorem st_ahead {l : List α} (h : St key l) {i j : Nat} {x y : α} (hi : l[i]? = some x) (hj : l[j]? = some y) (hij : i ≤ j) : key x ≤ key y := by
  rcases Nat.lt_or_ge i j with hl | hl
  · obtain ⟨h1, e1⟩ := List.getElem?_eq_some_iff.1 hi
    obtain ⟨h2, e2⟩ := List.getElem?_eq_some_iff.1 hj
    have := List.pairwise_iff_getElem.1 h i j h1 h2 hl
    rw [e1, e2] at this
    exact this
  · obtain rfl : i = j := by omega
    rw [hi] at hj
    cases hj
    exact Int.le_refl _
/-! ### by places -/
section
variable [Inhabited α]
theorem mem_take_at {l : List α} {t : Nat} {x : α} (h : x ∈ l.take t) : ∃ s, s < t ∧ s < l.length ∧ l[s]! = x := by
  obtain ⟨s, hs, e⟩ := List.getElem_of_mem h
  rw [List.length_take] at hs
  refine ⟨s, by omega, by omega, ?_⟩
  rw [List.getElem_take] at e
  rw [getElem!_pos l s (by omega), e]
theorem mem_drop_at {l : List α} {t : Nat} {x : α} (h : x ∈ l.drop t) : ∃ s, t ≤ s ∧ s < l.length ∧ l[s]! = x := by
  obtain ⟨s, hs, e⟩ := List.getElem_of_mem h
  rw [List.length_drop] at hs
  refine ⟨t + s, by omega, by omega, ?_⟩
  rw [List.getElem_drop] at e
  rw [getElem!_pos l (t + s) (by omega), e]
theorem st_at {l : List α} (h : St key l) {i j : Nat} (hij : i ≤ j) (hj : j < l.length) : key l[i]! ≤ key l[j]! := by
  rw [getElem!_pos l i (by omega), getElem!_pos l j hj]
  exact st_ahead key h (List.getElem?_eq_getElem (by omega)) (List.getElem?_eq_getElem hj) hij
theorem cut_at (A B : List α) (hA : St key A) (hB : St key B) (i j : Nat) (hi : i ≤ A.length) (hj : j ≤ B.length) (h1 : i = 0 ∨ j = B.length ∨ key A[i - 1]! ≤ key B[j]!) (h2 : j = 0 ∨ i = A.length ∨ key B[j - 1]! < key A[i]!) :
    mrg key A B = mrg key (A.take i) (B.take j) ++ mrg key (A.drop i) (B.drop j) := by
  have e := mrg_cut key (A.take i) (A.drop i) (B.take j) (B.drop j) (by rw [List.take_append_drop]; exact hA) (by rw [List.take_append_drop]; exact hB)
    (fun x hx y hy => by
      obtain ⟨s, s1, s2, rfl⟩ := mem_take_at hx
      obtain ⟨t, t1, t2, rfl⟩ := mem_drop_at hy
      have a := st_at key hA (show s ≤ i - 1 by omega) (by omega)
      have b := st_at key hB t1 t2
      have c := (h1.resolve_left (by omega)).resolve_left (by omega)
      omega)
    (fun x hx y hy => by
      obtain ⟨s, s1, s2, rfl⟩ := mem_take_at hx
      obtain ⟨t, t1, t2, rfl⟩ := mem_drop_at hy
      have a := st_at key hB (show s ≤ j - 1 by omega) (by omega)
      have b := st_at key hA t1 t2
      have c := (h2.resolve_left (by omega)).resolve_left (by omega)
      omega)
  rw [List.take_append_drop, List.take_append_drop] at e
  exact e
theorem one_l (x : α) (B : List α) (hB : St key B) (t : Nat) (ht : t ≤ B.length) (h1 : t = 0 ∨ key B[t - 1]! < key x) (h2 : t = B.length ∨ key x ≤ key B[t]!) : mrg key [x] B = B.take t ++ x :: B.drop t := by
  have e := mrg_one_l key x (B.take t) (B.drop t) (by rw [List.take_append_drop]; exact hB)
    (fun y hy => by
      obtain ⟨s, s1, s2, rfl⟩ := mem_take_at hy
      have a := st_at key hB (show s ≤ t - 1 by omega) (by omega)
      have c := h1.resolve_left (by omega)
      omega)
    (fun y hy => by
      obtain ⟨s, s1, s2, rfl⟩ := mem_drop_at hy
      have a := st_at key hB s1 s2
      have c := h2.resolve_left (by omega)
      omega)
  rw [List.take_append_drop] at e
  exact e
theorem one_r (x : α) (A : List α) (hA : St key A) (t : Nat) (ht : t ≤ A.length) (h1 : t = 0 ∨ key A[t - 1]! ≤ key x) (h2 : t = A.length ∨ key x < key A[t]!) : mrg key A [x] = A.take t ++ x :: A.drop t := by
  have e := mrg_one_r key x (A.take t) (A.drop t) (by rw [List.take_append_drop]; exact hA)
    (fun y hy => by
      obtain ⟨s, s1, s2, rfl⟩ := mem_take_at hy
      have a := st_at key hA (show s ≤ t - 1 by omega) (by omega)
      have c := h1.resolve_left (by omega)
      omega)
    (fun y hy => by
      obtain ⟨s, s1, s2, rfl⟩ := mem_drop_at hy
      have a := st_at key hA s1 s2
      have c := h2.resolve_left (by omega)
      omega)
  rw [List.take_append_drop] at e
  exact e
end
end Go.Proofs.YtachnclfgjdglaaSrt
