/- Data that came in, read as the values of the print's kinds (Kd): one combinator for each shape of type. -/
import Derived.Test.YtajlgbonapfckaaRows
import Derived.Test.YtajlgbonapfckaaWWords
import Derived.ProofKit
import Derived.OpenShut
import Derived.SizedLaws
import Derived.Deep.Slices
namespace Go.Proofs.Ytajlgbonapfckaa.Opn
open Go.ChangeShapes Go.WideShapes Go.RowKit Go.Proofs.YtajlgbonapfckaaW.PrintWords
open Go.Deep (open_slice choose_lt)
open Go.Proofs.Ytajlgbonapfckaa.Rows (uptoBulk uptoBulkAll)
set_option linter.unusedVariables false
set_option linter.unusedSimpArgs false

/-- What is read at type t is a value of kind d: with 'ok' of it, and no more than its own bulk. -/
structure Opens (P : Program) (t : TypeId) {α : Type} (d : Kd α) (ok : α → Prop) (bulk : α → Nat) : Prop where
  get : ∀ {H : Type} {enc : TypeId × Value → H} {w : World} {base : Nat} {spare : Nat → Bool} {held : Bool} {fuel : Nat} {cs : List Value} {x : DataW H × List MemPlace},
    DataW.trod enc P w base spare held fuel t cs = some x → (∀ n ∈ x.1.weights P t, n ≤ reachBytes) → ∃ y, d.K w y cs ∧ ok y ∧ bulk y ≤ uptoBulk x.1

theorem Opens.int {P : Program} {t : TypeId} {k : IntKind} (ht : P.underlying t = some (.int k)) : Opens P t (Kd.int k) (fun n => (Lit.int k n).wf = true) (fun _ => 1) := ⟨by
  intro H enc w base spare held fuel cs x h _
  obtain ⟨n, rfl, rfl, hw⟩ := DataW.trod_int ht h
  exact ⟨n, rfl, hw, by simp [uptoBulk]⟩⟩
theorem Opens.bool {P : Program} {t : TypeId} (ht : P.underlying t = some .bool) : Opens P t Kd.bool (fun _ => True) (fun _ => 1) := ⟨by
  intro H enc w base spare held fuel cs x h _
  obtain ⟨n, rfl, rfl⟩ := DataW.trod_bool ht h
  exact ⟨n, rfl, trivial, by simp [uptoBulk]⟩⟩
theorem Opens.string {P : Program} {t : TypeId} (ht : P.underlying t = some .string) : Opens P t Kd.string (fun s => s.size ≤ 140737488351232) (fun s => s.size + 1) := ⟨by
  intro H enc w base spare held fuel cs x h hz
  obtain ⟨s, rfl, rfl, hs⟩ := DataW.trod_string ht h
  refine ⟨s, rfl, ?_, ?_⟩
  · have := hz s.data.toList.length (by simp [DataW.weights])
    rw [Array.length_toList] at this
    exact this
  · show s.size + 1 ≤ s.data.toList.length + 1
    rw [Array.length_toList]
    exact Nat.le_refl _⟩

def sumOf {α : Type} (f : α → Nat) : List α → Nat
  | [] => 0
  | x :: r => f x + sumOf f r
theorem sumOf_le_mem {α : Type} (f : α → Nat) : ∀ (l : List α) (x : α), x ∈ l → f x ≤ sumOf f l
  | y :: r, x, h => by
    rcases List.mem_cons.1 h with rfl | h
    · simp [sumOf]
    · have := sumOf_le_mem f r x h
      simp only [sumOf]
      omega
theorem sumOf_map {α β : Type} (f : α → Nat) (g : β → α) : ∀ l : List β, sumOf f (l.map g) = sumOf (fun x => f (g x)) l
  | [] => rfl
  | x :: r => by simp [sumOf, sumOf_map f g r]
theorem sumOf_mono {α : Type} {f g : α → Nat} : ∀ {l : List α}, (∀ x ∈ l, f x ≤ g x) → sumOf f l ≤ sumOf g l
  | [], _ => Nat.le_refl _
  | x :: r, h => by
    have h1 := h x (by simp)
    have h2 := sumOf_mono (f := f) (g := g) (l := r) (fun y hy => h y (by simp [hy]))
    simp only [sumOf]
    omega
theorem bulkAll_eq {H : Type} : ∀ l : List (DataW H), uptoBulkAll l = sumOf uptoBulk l
  | [] => by simp [uptoBulkAll, sumOf]
  | x :: r => by simp [uptoBulkAll, sumOf, bulkAll_eq r]
theorem weightsAll_mem {H : Type} {P : Program} {e : TypeId} : ∀ {l : List (DataW H)} {d : DataW H}, d ∈ l → ∀ n ∈ d.weights P e, n ∈ DataW.weightsAll P e l
  | y :: r, d, h, n, hn => by
    simp only [DataW.weightsAll, List.mem_append]
    rcases List.mem_cons.1 h with rfl | h
    · exact .inl hn
    · exact .inr (weightsAll_mem h n hn)

theorem Opens.slice {P : Program} {t e : TypeId} {α : Type} (z : α) {d : Kd α} {ok : α → Prop} {bulk : α → Nat} {B : Nat} (ht : P.underlying t = some (.slice e)) (hc : P.cellsOf e = d.sz) (hB : P.bytesOf e = B) (h : Opens P e d ok bulk) :
    Opens P t (Kd.slice e d) (fun l => l.length ≤ maxLen ∧ l.length * B ≤ 140737488351232 ∧ ∀ x ∈ l, ok x) (fun l => sumOf bulk l + 1) := ⟨by
  haveI : Inhabited α := ⟨z⟩
  intro H enc w base spare held fuel cs x hx hz
  rcases open_slice ht hx with ⟨rfl, rfl⟩ | ⟨a, len, cap, m, n, D, Pl, rfl, hb, hl, hm, hmm, rfl, hel⟩
  · exact ⟨[], ⟨none, 0, rfl, Nat.le_refl _, Kd.C_nil d w⟩, ⟨by simp [maxLen], by simp, by simp⟩, by simp [uptoBulk, sumOf]⟩
  have hlm : len ≤ m := by rw [hmm]; split <;> omega
  have hz' : ∀ i, i < len → ∀ q ∈ (D i).weights P e, q ≤ reachBytes := fun i hi q hq => hz q (by
    simp only [DataW.weights, ht, List.mem_cons, List.mem_append]
    exact .inr (.inl (weightsAll_mem (List.mem_map.2 ⟨i, List.mem_range.2 hi, rfl⟩) q hq)))
  have key : ∀ i, i < len → ∃ y : α, ∃ cs', w.cells? base (a.add (i * P.cellsOf e)) (P.cellsOf e) = some cs' ∧ d.K w y cs' ∧ ok y ∧ bulk y ≤ uptoBulk (D i) := fun i hi => by
    obtain ⟨cs', h1, h2⟩ := hel i (by omega)
    obtain ⟨y, h3, h4, h5⟩ := h.get h2 (hz' i hi)
    exact ⟨y, cs', h1, h3, h4, h5⟩
  obtain ⟨f, hf⟩ := choose_lt (p := fun i y => ∃ cs', w.cells? base (a.add (i * P.cellsOf e)) (P.cellsOf e) = some cs' ∧ d.K w y cs' ∧ ok y ∧ bulk y ≤ uptoBulk (D i)) key
  have hlen : ((List.range len).map f).length = len := by simp
  refine ⟨(List.range len).map f, ⟨some a, cap, by rw [hlen], by rw [hlen]; exact hl, ?_⟩, ⟨by rw [hlen]; omega, ?_, ?_⟩, ?_⟩
  · refine ⟨rfl, by rw [hlen]; simp only [maxLen] at hm; omega, fun _ => ⟨a, rfl, fun j p hj => ?_⟩⟩
    have hjl : j < len := by
      have := List.getElem?_eq_some_iff.1 hj
      obtain ⟨h1, _⟩ := this
      simpa using h1
    have hp : p = f j := by
      rw [List.getElem?_map, List.getElem?_range hjl] at hj
      simpa using hj.symm
    obtain ⟨cs', h1, h2, _, _⟩ := hf j hjl
    obtain ⟨_, h3, h4⟩ := World.cells?_some h1
    refine ⟨cs', by rw [h3, hc], by rw [hp]; exact h2, fun i u hu => ?_⟩
    have hi : i < P.cellsOf e := by
      have := (List.getElem?_eq_some_iff.1 hu).1
      omega
    have := h4 i hi
    rw [hc, Go.Deep.add_add] at this
    rw [this, hu]
  · rw [hlen]
    have := hz ((((List.range len).map D).length + ((List.range (m - len)).map fun j => D (len + j)).length) * P.bytesOf e) (by simp [DataW.weights, ht])
    simp only [List.length_map, List.length_range, hB, reachBytes] at this
    exact Nat.le_trans (Nat.mul_le_mul_right _ (by omega)) this
  · intro x hx
    obtain ⟨i, hi, rfl⟩ := List.mem_map.1 hx
    obtain ⟨_, _, _, h1, _⟩ := hf i (List.mem_range.1 hi)
    exact h1
  · simp only [uptoBulk, bulkAll_eq, sumOf_map]
    have : sumOf (fun x => bulk (f x)) (List.range len) ≤ sumOf (fun x => uptoBulk (D x)) (List.range len) := sumOf_mono (fun i hi => by
      obtain ⟨_, _, _, _, h1⟩ := hf i (List.mem_range.1 hi)
      exact h1)
    omega⟩

/-- Fields from a cell on. -/
structure OpensFs (P : Program) (fs : List Field) (off : Nat) {α : Type} (d : Kd α) (ok : α → Prop) (bulk : α → Nat) : Prop where
  get : ∀ {H : Type} {enc : TypeId × Value → H} {w : World} {base : Nat} {spare : Nat → Bool} {held : Bool} {n : Nat} {cs : List Value} {xs : List (DataW H × List MemPlace)},
    cs.length = off + d.sz → xs.length = fs.length →
    (∀ (i : Nat) (f : Field), fs[i]? = some f → DataW.trod enc P w base spare held n f.type ((cs.drop f.offset).take (P.cellsOf f.type)) = xs[i]?) →
    (∀ q ∈ DataW.weightsEach P (fs.map (·.type)) (xs.map (·.1)), q ≤ reachBytes) → ∃ y, d.K w y (cs.drop off) ∧ ok y ∧ bulk y ≤ uptoBulkAll (xs.map (·.1))

theorem OpensFs.one {P : Program} {f : Field} {t : TypeId} {off : Nat} {α : Type} {d : Kd α} {ok : α → Prop} {bulk : α → Nat} (ht : f.type = t) (ho : f.offset = off) (hc : P.cellsOf t = d.sz) (h : Opens P t d ok bulk) : OpensFs P [f] off d ok bulk := ⟨by
  subst ht ho
  intro H enc w base spare held n cs xs hl hx hf hz
  match xs, hx with
  | [x], _ =>
    have h0 := hf 0 f rfl
    rw [hc, List.take_of_length_le (by rw [List.length_drop]; omega)] at h0
    obtain ⟨y, h1, h2, h3⟩ := h.get (show _ = some x by simpa using h0) (fun q hq => hz q (by simpa [DataW.weightsEach] using hq))
    exact ⟨y, h1, h2, by simpa [uptoBulkAll] using h3⟩⟩
theorem OpensFs.cons {P : Program} {f : Field} {fs : List Field} {t : TypeId} {off : Nat} {α β : Type} {d : Kd α} {ok : α → Prop} {bulk : α → Nat} {d2 : Kd β} {ok2 : β → Prop} {bulk2 : β → Nat} (ht : f.type = t) (ho : f.offset = off) (hc : P.cellsOf t = d.sz) (h : Opens P t d ok bulk)
    (h2 : OpensFs P fs (off + d.sz) d2 ok2 bulk2) : OpensFs P (f :: fs) off (Kd.pair d d2) (fun x => ok x.1 ∧ ok2 x.2) (fun x => bulk x.1 + bulk2 x.2) := ⟨by
  subst ht ho
  intro H enc w base spare held n cs xs hl hx hf hz
  match xs, hx with
  | x :: xs, hx =>
    have h0 := hf 0 f rfl
    obtain ⟨y, h1, h3, h4⟩ := h.get (show _ = some x by simpa using h0) (fun q hq => hz q (by
      simp only [List.map_cons, DataW.weightsEach, List.mem_append]
      exact .inl hq))
    obtain ⟨y2, g1, g3, g4⟩ := h2.get (cs := cs) (xs := xs) (enc := enc) (w := w) (base := base) (spare := spare) (held := held) (n := n)
      (by rw [hl]; simp only [Kd.pair]; omega) (by simpa using hx) (fun i f hif => by simpa using hf (i + 1) f (by simpa using hif))
      (fun q hq => hz q (by
        simp only [List.map_cons, DataW.weightsEach, List.mem_append]
        exact .inr hq))
    refine ⟨(y, y2), ⟨_, _, ?_, h1, g1⟩, ⟨h3, g3⟩, ?_⟩
    · rw [hc, ← List.drop_drop, List.take_append_drop]
    · simp only [List.map_cons, uptoBulkAll]
      omega⟩
theorem Opens.struct {P : Program} {t : TypeId} {fs : Array Field} {α β : Type} {d : Kd α} {ok : α → Prop} {bulk : α → Nat} (f : β → α) (g : α → β) (hfg : ∀ x, f (g x) = x) (ht : P.underlying t = some (.struct fs)) (hc : P.cellsOf t = d.sz)
    (h : OpensFs P fs.toList 0 d ok bulk) : Opens P t (Kd.iso d f) (fun x => ok (f x)) (fun x => bulk (f x) + 1) := ⟨by
  intro H enc w base spare held fuel cs x hx hz
  obtain ⟨xs, n, rfl, rfl, hl, hlen, hf⟩ := DataW.trod_struct ht hx
  obtain ⟨y, h1, h2, h3⟩ := h.get (cs := cs) (xs := xs) (enc := enc) (w := w) (base := base) (spare := spare) (held := held) (n := n) (by rw [hl, hc]; omega) (by simpa using hlen)
    (fun i f hif => hf i f (by simpa using hif)) (fun q hq => hz q (by simpa [DataW.weights, ht] using hq))
  refine ⟨g y, ?_, ?_, ?_⟩
  · show d.K w (f (g y)) cs
    rw [hfg]
    simpa using h1
  · show ok (f (g y))
    rw [hfg]
    exact h2
  · show bulk (f (g y)) + 1 ≤ _
    rw [hfg]
    simp only [uptoBulk]
    omega⟩

/-- An array's places, as fields. -/
def arrFs (e : TypeId) : Nat → Nat → List Field
  | 0, _ => []
  | n + 1, o => ⟨"", e, o, false, "", "", 0⟩ :: arrFs e n (o + 1)
theorem arrFs_len (e : TypeId) : ∀ n o, (arrFs e n o).length = n
  | 0, _ => rfl
  | n + 1, o => by rw [arrFs, List.length_cons, arrFs_len e n (o + 1)]
theorem arrFs_get (e : TypeId) : ∀ n o i f, (arrFs e n o)[i]? = some f → i < n ∧ f.type = e ∧ f.offset = o + i
  | 0, o, i, f, h => by simp [arrFs] at h
  | n + 1, o, 0, f, h => by
    rw [arrFs] at h
    obtain rfl : _ = f := by simpa using h
    exact ⟨by omega, rfl, rfl⟩
  | n + 1, o, i + 1, f, h => by
    rw [arrFs] at h
    obtain ⟨h1, h2, h3⟩ := arrFs_get e n (o + 1) i f (by simpa using h)
    exact ⟨by omega, h2, by omega⟩
theorem arrFs_weights {H : Type} (P : Program) (e : TypeId) : ∀ n o (ds : List (DataW H)), ds.length = n → DataW.weightsEach P ((arrFs e n o).map (·.type)) ds = DataW.weightsAll P e ds
  | 0, o, ds, h => by
    obtain rfl := List.eq_nil_of_length_eq_zero h
    simp [arrFs, DataW.weightsEach, DataW.weightsAll]
  | n + 1, o, d :: ds, h => by
    rw [arrFs, List.map_cons, DataW.weightsEach, DataW.weightsAll, arrFs_weights P e n (o + 1) ds (by simpa using h)]
theorem okWide_array {P : Program} {w : World} {r : Reach} {base : Nat} {t : TypeId} {v : Value} {n : Nat} {e : TypeId} (ht : P.underlying t = some (.array n e)) (h : Value.okWide P w r base t v) : ∃ cs, v = .agg cs ∧ cs.size = P.cellsOf t := by
  simp only [Value.okWide, ht] at h
  obtain ⟨cs, h1, h2, _⟩ := h
  exact ⟨cs, h1, h2⟩
theorem Opens.array {P : Program} {t : TypeId} {n : Nat} {e : TypeId} {α β : Type} {d : Kd α} {ok : α → Prop} {bulk : α → Nat} (f : β → α) (g : α → β) (hfg : ∀ x, f (g x) = x) (ht : P.underlying t = some (.array n e)) (hce : P.cellsOf e = 1) (hc : P.cellsOf t = d.sz)
    (h : OpensFs P (arrFs e n 0) 0 d ok bulk) : Opens P t (Kd.iso d f) (fun x => ok (f x)) (fun x => bulk (f x) + 1) := ⟨by
  intro H enc w base spare held fuel cs x hx hz
  obtain ⟨xs, m, rfl, rfl, hl, hlen, hf⟩ := DataW.trod_array ht hx
  obtain ⟨y, h1, h2, h3⟩ := h.get (cs := cs) (xs := xs) (enc := enc) (w := w) (base := base) (spare := spare) (held := held) (n := m) (by rw [hl, hc]; omega) (by rw [arrFs_len]; exact hlen)
    (fun i f hif => by
      obtain ⟨a1, a2, a3⟩ := arrFs_get e n 0 i f hif
      have := hf i a1
      rw [hce, Nat.mul_one] at this
      rw [a2, a3, hce, Nat.zero_add]
      exact this) (fun q hq => hz q (by
      rw [arrFs_weights P e n 0 _ (by rw [List.length_map]; exact hlen)] at hq
      simpa [DataW.weights, ht] using hq))
  refine ⟨g y, ?_, ?_, ?_⟩
  · show d.K w (f (g y)) cs
    rw [hfg]
    simpa using h1
  · show ok (f (g y))
    rw [hfg]
    exact h2
  · show bulk (f (g y)) + 1 ≤ _
    rw [hfg]
    simp only [uptoBulk]
    omega⟩

/-- An argument: its reading, its weights out of the row's. -/
theorem Opens.arg {P : Program} {t : TypeId} {α : Type} {d : Kd α} {ok : α → Prop} {bulk : α → Nat} (h : Opens P t d ok bulk) {H : Type} {enc : TypeId × Value → H} {w : World} {base : Nat} {spare : Nat → Bool} {held : Bool} {v : Value} {x : DataW H} {p : List MemPlace} {ts : List TypeId} {ds : List (DataW H)} {j : Nat}
    (hsz : (DataW.weightsEach P ts ds).all (· ≤ reachBytes) = true) (ht : ts[j]? = some t) (hd : ds[j]? = some x) (hv : DataW.Trod enc P w base spare held t v x p) : ∃ y, d.K w y v.cells.toList ∧ ok y ∧ bulk y ≤ uptoBulk x := by
  obtain ⟨fuel, hf⟩ := hv
  exact h.get hf (fun n hn => by
    have := List.all_eq_true.1 hsz _ (DataW.weights_mem_each ht hd n hn)
    simpa using this)
theorem bulk_arg {H : Type} {ds : List (DataW H)} {d : DataW H} {B : Nat} (h : uptoBulkAll ds ≤ B) (hd : d ∈ ds) : uptoBulk d ≤ B := by
  rw [bulkAll_eq] at h
  exact Nat.le_trans (sumOf_le_mem _ _ _ hd) h
theorem agg_of {cs : Array Value} {l : List Value} (h : (Value.agg cs).cells.toList = l) : Value.agg cs = .agg l.toArray := by
  subst h
  rfl
theorem slice_of {P : Program} {t e : TypeId} {α : Type} {d : Kd α} {w : World} {a : Option Addr} {len cap : Nat} {y : List α} (h : (Kd.slice e d).K w y (Value.slice a len cap).cells.toList) : y.length = len ∧ y.length ≤ cap ∧ d.C w a y.length y := by
  obtain ⟨A, c, e1, h1, h2⟩ := h
  have e2 : [Value.slice a len cap] = [.slice A y.length c] := e1
  injection e2 with e2
  injection e2 with e3 e4 e5
  subst e3 e5
  exact ⟨e4.symm, h1, h2⟩
theorem trod_blocks {H : Type} {enc : TypeId × Value → H} {P : Program} {W : World} {base : Nat} {spare : Nat → Bool} {held : Bool} {t : TypeId} {v : Value} {d : DataW H} {p : List MemPlace} (h : DataW.Trod enc P W base spare held t v d p) : ∀ x ∈ p, x.block < W.heap.size := by
  obtain ⟨m, hm⟩ := h
  exact DataW.trod_lt m _ _ _ hm
end Go.Proofs.Ytajlgbonapfckaa.Opn
