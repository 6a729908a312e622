/- What is read before a call, as lists and structures: from the data of a row to what the walks ask of an argument; with the bounds on sizes. No conditions. -/
import Derived.Test.YtachnclfgjdglaaWMore
import Derived.SizedLaws
import Derived.ChangeArms
import Derived.Deep.Slices
namespace Go.Proofs.YtachnclfgjdglaaOpen
open Go.RowKit Go.Proofs.YtachnclfgjdglaaW.PrintWords Go.Proofs.YtachnclfgjdglaaW.PrintLast Go.Proofs.YtachnclfgjdglaaW.PrintMore
set_option linter.unusedVariables false
set_option linter.unusedSimpArgs false

def Opens {α : Type} (P : Program) (H : Type) (enc : TypeId × Value → H) (W : World) (d : Kd α) (t : TypeId) (wf : α → Prop) : Prop :=
  ∀ fuel cs x, DataW.trod enc P W 0 (fun _ => true) true fuel t cs = some x → (∀ n ∈ DataW.weights P t x.1, n ≤ 140737488351232) → ∃ a, d.K W a cs ∧ wf a
section
variable {P : Program} {H : Type} {enc : TypeId × Value → H} {W : World}
theorem opens_int {t : TypeId} {k : IntKind} (ht : P.underlying t = some (.int k)) : Opens P H enc W (Kd.int k) t (fun n => (Lit.int k n).wf = true) := by
  intro fuel cs x h _
  obtain ⟨n, rfl, rfl, hw⟩ := DataW.trod_int ht h
  exact ⟨n, rfl, hw⟩
theorem opens_bool {t : TypeId} (ht : P.underlying t = some .bool) : Opens P H enc W Kd.bool t (fun _ => True) := by
  intro fuel cs x h _
  obtain ⟨b, rfl, rfl⟩ := DataW.trod_bool ht h
  exact ⟨b, rfl, trivial⟩
theorem opens_string {t : TypeId} (ht : P.underlying t = some .string) : Opens P H enc W Kd.string t (fun s => s.size ≤ 140737488351232) := by
  intro fuel cs x h hw
  obtain ⟨s, rfl, rfl, hs⟩ := DataW.trod_string ht h
  refine ⟨s, rfl, ?_⟩
  have := hw s.data.toList.length (by simp [DataW.weights])
  rwa [Array.length_toList] at this
theorem weights_all {e : TypeId} {ds : List (DataW H)} {i : Nat} {d : DataW H} (h : ds[i]? = some d) {n : Nat} (hn : n ∈ DataW.weights P e d) : n ∈ DataW.weightsAll P e ds := by
  induction ds generalizing i with
  | nil => simp at h
  | cons y ys ih =>
    rw [DataW.weightsAll, List.mem_append]
    cases i with
    | zero =>
      obtain rfl : y = d := by simpa using h
      exact .inl hn
    | succ i => exact .inr (ih (i := i) (by simpa using h))
theorem opens_slice {α : Type} {d : Kd α} {t e : TypeId} {wf : α → Prop} {B : Nat} [Inhabited α] (ht : P.underlying t = some (.slice e)) (hc : P.cellsOf e = d.sz) (hs : 0 < d.sz) (hB : P.bytesOf e = B)
    (hd : Opens P H enc W d e wf) : Opens P H enc W (Kd.slice e d) t (fun xs => xs.length ≤ maxLen ∧ xs.length * B ≤ 140737488351232 ∧ ∀ x ∈ xs, wf x) := by
  intro fuel cs x h hw
  rcases DataW.trod_slice ht h with ⟨rfl, rfl⟩ | ⟨a, len, cap, elems, rest, n, rfl, rfl, rfl, _, hl, hm, hlen, hel, _, _⟩
  · exact ⟨[], ⟨none, 0, rfl, Nat.le_refl _, Kd.C_nil d W⟩, by simp, by simp, by simp⟩
  have hwt : (elems.length + rest.length) * P.bytesOf e ≤ 140737488351232 := by
    have := hw ((elems.length + rest.length) * P.bytesOf e) (by simp [DataW.weights, ht])
    exact this
  have each : ∀ i, i < len → ∃ p : α, ∃ c, W.cells? 0 (a.add (i * d.sz)) d.sz = some c ∧ d.K W p c ∧ wf p := by
    intro i hi
    have h1 := hel i hi
    have hlt : i < elems.length := by omega
    rw [List.getElem?_eq_getElem hlt, hc] at h1
    obtain ⟨c, h2, h3⟩ := Option.bind_eq_some_iff.1 h1
    obtain ⟨p, hp, hwp⟩ := hd n c _ h3 (fun m hm => hw m (by
      simp only [DataW.weights, ht]
      refine List.mem_cons_of_mem _ (List.mem_append_left _ (weights_all (i := i) (d := elems[i].1) ?_ hm))
      rw [List.getElem?_map, List.getElem?_eq_getElem hlt]
      rfl))
    exact ⟨p, c, h2, hp, hwp⟩
  obtain ⟨f, hf⟩ := Deep.choose_lt each
  have hlf : ((List.range len).map f).length = len := by simp
  refine ⟨(List.range len).map f, ⟨some a, cap, by rw [hlf], by rw [hlf]; exact hl, ?_⟩, ?_, ?_, ?_⟩
  · rw [hlf]
    refine ⟨hlf, Nat.le_trans hl hm, fun _ => ⟨a, rfl, fun j p hj => ?_⟩⟩
    have hjl : j < len := by
      have := (List.getElem?_eq_some_iff.1 hj).1
      omega
    have hp : f j = p := by
      rw [List.getElem?_map, List.getElem?_range hjl] at hj
      simpa using hj
    subst hp
    obtain ⟨c, h2, hK, _⟩ := hf j hjl
    obtain ⟨_, hcl, hcell⟩ := World.cells?_some h2
    refine ⟨c, d.K_len hK, hK, fun i u hu => ?_⟩
    have hi : i < d.sz := by
      have h3 := (List.getElem?_eq_some_iff.1 hu).1
      have h4 := d.K_len hK
      omega
    have := hcell i hi
    rw [hu] at this
    have ea : (a.add (j * d.sz)).add i = a.add (j * d.sz + i) := by
      unfold Addr.add
      by_cases h1 : j * d.sz = 0 <;> by_cases h2 : i = 0 <;> simp [h1, h2, Nat.add_assoc]
    rwa [ea] at this
  · rw [hlf]; omega
  · rw [hlf]
    rw [hB] at hwt
    exact Nat.le_trans (Nat.mul_le_mul_right _ (by omega)) hwt
  · intro y hy
    rw [List.mem_map] at hy
    obtain ⟨j, hj, rfl⟩ := hy
    exact (hf j (List.mem_range.1 hj)).choose_spec.2.2
theorem opens_iso {α β : Type} {d : Kd α} {t : TypeId} {wf : α → Prop} (f : β → α) (hs : ∀ a, ∃ b, f b = a) (h : Opens P H enc W d t wf) : Opens P H enc W (Kd.iso d f) t (fun b => wf (f b)) := by
  intro fuel cs x hx hw
  obtain ⟨a, hK, hwf⟩ := h fuel cs x hx hw
  obtain ⟨b, rfl⟩ := hs a
  exact ⟨b, hK, hwf⟩
def FieldsOpen {α : Type} (P : Program) (H : Type) (enc : TypeId × Value → H) (W : World) (d : Kd α) (ts : List Field) (o : Nat) (wf : α → Prop) : Prop :=
  ∀ (n : Nat) (cs : List Value) (xs : List (DataW H × List MemPlace)), xs.length = ts.length → cs.length = o + d.sz →
    (∀ (i : Nat) (f : Field), ts[i]? = some f → DataW.trod enc P W 0 (fun _ => true) true n f.type ((cs.drop f.offset).take (P.cellsOf f.type)) = xs[i]?) →
    (∀ m ∈ DataW.weightsEach P (ts.map (fun g : Field => g.type)) (xs.map (·.1)), m ≤ 140737488351232) → ∃ a, d.K W a (cs.drop o) ∧ wf a
theorem fields_last {α : Type} {d : Kd α} {f : Field} {o : Nat} {wf : α → Prop} (hf : f.offset = o) (hc : P.cellsOf f.type = d.sz) (h : Opens P H enc W d f.type wf) : FieldsOpen P H enc W d [f] o wf := by
  intro n cs xs hx hl ht hw
  match xs, hx with
  | [x], _ =>
    have h1 := ht 0 f rfl
    rw [hf, hc, List.take_of_length_le (by rw [List.length_drop]; omega)] at h1
    exact h n _ x h1 (fun m hm => hw m (by simp [DataW.weightsEach, hm]))
theorem fields_cons {α β : Type} {d : Kd α} {d' : Kd β} {f : Field} {ts : List Field} {o : Nat} {wf : α → Prop} {wf' : β → Prop} (hf : f.offset = o) (hc : P.cellsOf f.type = d.sz) (h : Opens P H enc W d f.type wf)
    (h2 : FieldsOpen P H enc W d' ts (o + d.sz) wf') : FieldsOpen P H enc W (Kd.pair d d') (f :: ts) o (fun x => wf x.1 ∧ wf' x.2) := by
  intro n cs xs hx hl ht hw
  match xs, hx with
  | x :: xs, hx =>
    have hl' : cs.length = o + (d.sz + d'.sz) := hl
    have h1 := ht 0 f rfl
    rw [hf, hc] at h1
    obtain ⟨a, hK, hwa⟩ := h n _ x h1 (fun m hm => hw m (by simp [DataW.weightsEach, hm]))
    obtain ⟨b, hKb, hwb⟩ := h2 n cs xs (by simpa using hx) (by omega) (fun i g hg => ht (i + 1) g (by simpa using hg)) (fun m hm => hw m (by simp only [List.map_cons, DataW.weightsEach, List.mem_append]; exact .inr hm))
    refine ⟨(a, b), ⟨_, _, ?_, hK, hKb⟩, hwa, hwb⟩
    rw [← List.drop_drop, List.take_append_drop]
theorem opens_struct {α : Type} {d : Kd α} {t : TypeId} {fs : Array Field} {wf : α → Prop} (ht : P.underlying t = some (.struct fs)) (hc : P.cellsOf t = d.sz) (h : FieldsOpen P H enc W d fs.toList 0 wf) : Opens P H enc W d t wf := by
  intro fuel cs x hx hw
  obtain ⟨xs, n, rfl, rfl, hl, hn, he⟩ := DataW.trod_struct ht hx
  obtain ⟨a, hK, hwf⟩ := h n cs xs (by simpa using hn) (by rw [hl, hc]; omega) (fun i f hf => he i f (by simpa using hf)) (fun m hm => hw m (by simpa [DataW.weights, ht] using hm))
  exact ⟨a, by simpa using hK, hwf⟩
theorem weights_nth {ts : List TypeId} {ds : List (DataW H)} {j : Nat} {t : TypeId} {d : DataW H} (hsz : (DataW.weightsEach P ts ds).all (· ≤ reachBytes) = true) (ht : ts[j]? = some t) (hd : ds[j]? = some d) :
    ∀ n ∈ DataW.weights P t d, n ≤ 140737488351232 := by
  intro n hn
  have := List.all_eq_true.1 hsz _ (DataW.weights_mem_each ht hd n hn)
  exact of_decide_eq_true this
/-- A slice argument, whatever its elements. -/
theorem open_slice_arg {α : Type} {d : Kd α} {t e : TypeId} {wf : List α → Prop} {a : Option Addr} {len cap : Nat} {x : DataW H} {ps : List MemPlace} {ts : List TypeId} {ds : List (DataW H)} {j : Nat}
    (ho : Opens P H enc W (Kd.slice e d) t wf) (hsz : (DataW.weightsEach P ts ds).all (· ≤ reachBytes) = true) (ht : ts[j]? = some t) (hd : ds[j]? = some x)
    (h : DataW.Trod enc P W 0 (fun _ => true) true t (.slice a len cap) x ps) : ∃ l : List α, len = l.length ∧ d.C W a l.length l ∧ l.length ≤ cap ∧ wf l := by
  obtain ⟨fuel, hf⟩ := h
  obtain ⟨l, ⟨A, c, hcs, hl, hC⟩, hw⟩ := ho fuel _ _ hf (weights_nth hsz ht hd)
  simp [Value.cells] at hcs
  obtain ⟨rfl, rfl, rfl⟩ := hcs
  exact ⟨l, rfl, hC, hl, hw⟩
end
end Go.Proofs.YtachnclfgjdglaaOpen
