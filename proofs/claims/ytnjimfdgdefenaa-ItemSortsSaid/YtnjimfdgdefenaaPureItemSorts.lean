/- ItemSorts: texts by their fields, and then as they rise, each once; in plain Lean. -/
import Derived.Test.YtnjimfdgdefenaaPItemSortsx4
import Derived.Test.YtnjimfdgdefenaaStr
import Derived.Test.YtnjimfdgdefenaaEvs
import Derived.Test.YtnjimfdgdefenaaSrt
namespace Go.Proofs.Ytnjimfdgdefenaa.Pure
open Go.RowKit Go.Proofs.Ytnjimfdgdefenaa.PItemSorts Go.Proofs.YtnjimfdgdefenaaW.PrintWords Go.Proofs.YtnjimfdgdefenaaW.PrintMore Go.Proofs.Ytnjimfdgdefenaa.Evs Go.Proofs.Ytnjimfdgdefenaa.Str Go.Proofs.Ytnjimfdgdefenaa.Conv Go.Proofs.Ytnjimfdgdefenaa.Srt
set_option linter.unusedVariables false
set_option linter.unusedSimpArgs false
namespace IO
theorem t1 : sortB [(⟨#[66, 61, 50]⟩ : ByteArray), (⟨#[65, 61, 49]⟩ : ByteArray), (⟨#[66, 61, 50]⟩ : ByteArray)] = [(⟨#[65, 61, 49]⟩ : ByteArray), (⟨#[66, 61, 50]⟩ : ByteArray), (⟨#[66, 61, 50]⟩ : ByteArray)] := by
  have h1 : ¬ ([66, 61, 50] : List UInt8) ≤ [65, 61, 49] := by decide
  have h2 : ([65, 61, 49] : List UInt8) ≤ [66, 61, 50] := by decide
  have h3 : ([66, 61, 50] : List UInt8) ≤ [66, 61, 50] := by decide
  simp [sortB, List.mergeSort, List.MergeSort.Internal.splitInTwo, List.merge, h1, h2, h3]
theorem t3 : compB [(⟨#[65, 61, 49]⟩ : ByteArray), (⟨#[66, 61, 50]⟩ : ByteArray), (⟨#[66, 61, 50]⟩ : ByteArray)] = [(⟨#[65, 61, 49]⟩ : ByteArray), (⟨#[66, 61, 50]⟩ : ByteArray)] := by decide +kernel
theorem t4 : item_Split.f (⟨#[66, 61, 50]⟩ : ByteArray) = some (⟨#[66]⟩, ⟨#[50]⟩, true) := by decide +kernel
theorem t5 : item_Split.f (⟨#[65, 61, 49]⟩ : ByteArray) = some (⟨#[65]⟩, ⟨#[49]⟩, true) := by decide +kernel
theorem t6 : item_Split.f (⟨#[65, 61, 98, 61, 99]⟩ : ByteArray) = some (⟨#[65]⟩, ⟨#[98, 61, 99]⟩, true) := by decide +kernel
theorem t7 : logbookref04_Texts.f 10 [(⟨#[65, 61, 49]⟩ : ByteArray), (⟨#[66, 61, 50]⟩ : ByteArray)] [(⟨#[65, 61, 49]⟩ : ByteArray), (⟨#[66, 61, 50]⟩ : ByteArray)] = some true := by decide +kernel
theorem t8 : Ev (fun k => logbookref04_Texts.f k [(⟨#[65, 61, 49]⟩ : ByteArray), (⟨#[66, 61, 50]⟩ : ByteArray)] [(⟨#[65, 61, 49]⟩ : ByteArray), (⟨#[66, 61, 50]⟩ : ByteArray)]) true := ⟨10, fun k hk => by
  obtain ⟨m, rfl⟩ : ∃ m, k = m + 10 := ⟨k - 10, by omega⟩
  have h : ∀ m, logbookref04_Texts.f (m + 10) [(⟨#[65, 61, 49]⟩ : ByteArray), (⟨#[66, 61, 50]⟩ : ByteArray)] [(⟨#[65, 61, 49]⟩ : ByteArray), (⟨#[66, 61, 50]⟩ : ByteArray)] = some true := fun m => by
    induction m with
    | zero => exact t7
    | succ m ih => rw [show m + 1 + 10 = m + 10 + 1 by omega]; exact logbookref04_Texts.mono _ _ (m + 10) _ ih
  exact h m⟩
def L3 : List ByteArray := [(⟨#[66, 61, 50]⟩ : ByteArray), (⟨#[65, 61, 49]⟩ : ByteArray), (⟨#[66, 61, 50]⟩ : ByteArray)]
theorem check_tells : Ev (fun k => item_Check.f k L3) ([(⟨#[65, 61, 49]⟩ : ByteArray), (⟨#[66, 61, 50]⟩ : ByteArray)], 0) := by
  have q1 : wrap64 ((0 : Int) + 1) = 1 := by decide +kernel
  have q2 : wrap64 ((1 : Int) + 1) = 2 := by decide +kernel
  have q3 : wrap64 ((2 : Int) + 1) = 3 := by decide +kernel
  refine Ev.neg (by decide +kernel) (Ev.neg (by decide +kernel) ?_)
  refine Ev.step (fun k => item_Check.l0.eq_2 _ _ _ _ _ _) (Ev.pos (by decide +kernel) (Ev.pos (by decide +kernel) (Ev.pos (by decide +kernel) (Ev.neg (by decide +kernel) (Ev.bindc t4 (Ev.pos rfl ?_))))))
  rw [q1]
  refine Ev.step (fun k => item_Check.l0.eq_2 _ _ _ _ _ _) (Ev.pos (by decide +kernel) (Ev.pos (by decide +kernel) (Ev.pos (by decide +kernel) (Ev.neg (by decide +kernel) (Ev.bindc t5 (Ev.pos rfl ?_))))))
  rw [q2]
  refine Ev.step (fun k => item_Check.l0.eq_2 _ _ _ _ _ _) (Ev.pos (by decide +kernel) (Ev.pos (by decide +kernel) (Ev.pos (by decide +kernel) (Ev.neg (by decide +kernel) (Ev.bindc t4 (Ev.pos rfl ?_))))))
  rw [q3]
  refine Ev.step (fun k => item_Check.l0.eq_2 _ _ _ _ _ _) (Ev.neg (by decide +kernel) (Ev.neg (by decide +kernel) ?_))
  have e1 : slices_Clone_string_string.f L3 = some L3 := if_pos (by decide)
  have e2 : slices_Sort_string_string.f L3 = some [(⟨#[65, 61, 49]⟩ : ByteArray), (⟨#[66, 61, 50]⟩ : ByteArray), (⟨#[66, 61, 50]⟩ : ByteArray)] := by
    unfold slices_Sort_string_string.f
    rw [if_pos (by decide)]
    unfold L3
    rw [t1]
  have e3 : slices_Compact_string_string.f [(⟨#[65, 61, 49]⟩ : ByteArray), (⟨#[66, 61, 50]⟩ : ByteArray), (⟨#[66, 61, 50]⟩ : ByteArray)] = some [(⟨#[65, 61, 49]⟩ : ByteArray), (⟨#[66, 61, 50]⟩ : ByteArray)] := by
    unfold slices_Compact_string_string.f
    rw [t3]
  exact Ev.bindc e1 (Ev.bindc e2 (Ev.bindc e3 (Ev.now _)))
theorem awake_tells : Ev (fun k => logbooklaw04_awake.f k) true :=
  Ev.bind check_tells (Ev.bindc t6 (Ev.pos rfl (Ev.bind t8 (Ev.pos rfl (Ev.pos (by decide +kernel) (Ev.pos (by decide +kernel) (Ev.now _)))))))
/-! ### names -/
def Good (c : Int) (i : Nat) : Prop := c = 95 ∨ (65 ≤ c ∧ c ≤ 90) ∨ (48 ≤ c ∧ c ≤ 57 ∧ 0 < i)
theorem wi {i n : Nat} (h : i ≤ n) (hn : n ≤ 140737488355328) : wrap64 ((i : Int) + 1) = ((i + 1 : Nat) : Int) := by
  rw [w64 (by omega) (by omega)]
  omega
theorem j1_step (s : ByteArray) (i : Nat) (hi : i < s.size) (hs : s.size ≤ 140737488351232) (R : Bool) (hg : Good (bt s i) i → Ev (fun k => logbookref04_Name.l0 k s ((i + 1 : Nat) : Int)) R) (hb : ¬ Good (bt s i) i → R = false) :
    Ev (fun k => logbookref04_Name.j1 k s i true) R := by
  refine Ev.step (fun k => logbookref04_Name.j1.eq_2 _ _ _ _) (Ev.pos rfl (Ev.pos (by omega) (Ev.pos (by omega) ?_)))
  rw [wi (i := i) (n := s.size) (by omega) (by omega)]
  unfold Good at hg hb
  generalize bt s (i : Int) = c at hg hb ⊢
  by_cases a : 65 ≤ c ∧ c ≤ 90
  · have e := hg (Or.inr (Or.inl a))
    exact Ev.pos a.1 (Ev.pos a.2 (Ev.pos (by omega) e))
  · by_cases u : c = 95
    · have e := hg (Or.inl u)
      exact Ev.both (fun _ => Ev.neg (by omega) (Ev.pos (by omega) (Ev.pos u e))) (fun _ => Ev.pos (by omega) (Ev.pos u e))
    · by_cases d : 48 ≤ c ∧ c ≤ 57
      · refine Ev.neg (by omega) (Ev.pos (by omega) (Ev.neg u (Ev.pos (by omega) ?_)))
        refine Ev.both (fun z => hg (Or.inr (Or.inr ⟨d.1, d.2, by omega⟩))) (fun z => Ev.eq (Ev.now _) (hb (by omega)).symm)
      · have e : false = R := (hb (by omega)).symm
        exact Ev.both (fun _ => Ev.neg (by omega) (Ev.pos (by omega) (Ev.neg u (Ev.neg (by omega) (Ev.eq (Ev.now _) e))))) (fun _ => Ev.both (fun _ => Ev.neg u (Ev.neg (by omega) (Ev.eq (Ev.now _) e))) (fun _ => Ev.neg u (Ev.eq (Ev.now _) e)))
theorem name_long (s : ByteArray) (hs : s.size ≤ 140737488351232) (h : 64 < s.size) : ∀ (d i : Nat), d + i = 65 → Ev (fun k => logbookref04_Name.l0 k s i) false
  | 0, i, hd => by
    refine Ev.step (fun k => logbookref04_Name.l0.eq_2 _ _ _) (Ev.both (fun _ => ?_) (fun _ => ?_))
    · rw [decide_eq_false (show ¬ (i : Int) ≤ 64 by omega)]
      exact Ev.step (fun k => logbookref04_Name.j1.eq_2 _ _ _ _) (Ev.neg (by simp) (Ev.pos (by omega) (Ev.eq (Ev.now _) (decide_eq_false (by omega)))))
    · exact Ev.step (fun k => logbookref04_Name.j1.eq_2 _ _ _ _) (Ev.neg (by simp) (Ev.pos (by omega) (Ev.eq (Ev.now _) (decide_eq_false (by omega)))))
  | d + 1, i, hd => by
    refine Ev.step (fun k => logbookref04_Name.l0.eq_2 _ _ _) (Ev.pos (by omega) ?_)
    rw [decide_eq_true (show (i : Int) ≤ 64 by omega)]
    exact j1_step s i (by omega) hs false (fun _ => name_long s hs h d (i + 1) (by omega)) (fun _ => rfl)
theorem name_short (s : ByteArray) (hs : s.size ≤ 64) (h1 : 1 ≤ s.size) (R : Bool) : ∀ (d i : Nat), d + i = s.size → (R = true → ∀ j, i ≤ j → j < s.size → Good (bt s j) j) → (R = false → ∃ j, i ≤ j ∧ j < s.size ∧ ¬ Good (bt s j) j) → Ev (fun k => logbookref04_Name.l0 k s i) R
  | 0, i, hd, ht, hf => by
    have e : R = true := by
      cases R with
      | true => rfl
      | false =>
        obtain ⟨j, h2, h3, _⟩ := hf rfl
        omega
    refine Ev.step (fun k => logbookref04_Name.l0.eq_2 _ _ _) (Ev.neg (by omega) ?_)
    exact Ev.step (fun k => logbookref04_Name.j1.eq_2 _ _ _ _) (Ev.neg (by simp) (Ev.pos (by omega) (Ev.eq (Ev.now _) (by rw [e]; exact decide_eq_true (by omega)))))
  | d + 1, i, hd, ht, hf => by
    refine Ev.step (fun k => logbookref04_Name.l0.eq_2 _ _ _) (Ev.pos (by omega) ?_)
    rw [decide_eq_true (show (i : Int) ≤ 64 by omega)]
    refine j1_step s i (by omega) (by omega) R (fun hg => ?_) (fun hn => ?_)
    · refine name_short s hs h1 R d (i + 1) (by omega) (fun hr j h2 h3 => ht hr j (by omega) h3) (fun hr => ?_)
      obtain ⟨j, h2, h3, h4⟩ := hf hr
      refine ⟨j, ?_, h3, h4⟩
      rcases Nat.lt_or_ge i j with h | h
      · exact h
      · obtain rfl : j = i := by omega
        exact absurd hg h4
    · cases R with
      | false => rfl
      | true => exact absurd (ht rfl i (Nat.le_refl _) (by omega)) hn
def nameV (s : ByteArray) : Bool := if s.size = 0 then false else if s.size > 64 then false else if 48 ≤ bt s 0 ∧ bt s 0 ≤ 57 then false else (bytesOf s).all nameB
theorem name_f (s : ByteArray) : item_Name.f s = some (nameV s) := by
  unfold item_Name.f nameV
  split
  · rfl
  · split
    · rfl
    · split <;> rfl
theorem nameB_iff (c : Int) : nameB c = true ↔ (c = 95 ∨ (65 ≤ c ∧ c ≤ 90) ∨ (48 ≤ c ∧ c ≤ 57)) := by
  constructor
  · intro h
    apply Decidable.byContradiction
    intro hn
    rw [nameB_no hn] at h
    cases h
  · exact nameB_yes
theorem all_bytes (s : ByteArray) : (bytesOf s).all nameB = true ↔ ∀ j, j < s.size → nameB (bt s (j : Nat)) = true := by
  rw [List.all_eq_true]
  constructor
  · intro h j hj
    have h1 : j < (bytesOf s).length := by rw [bytesOf_length]; exact hj
    have := h _ (List.getElem_mem h1)
    rw [bt_get, List.getD_eq_getElem?_getD, List.getElem?_eq_getElem h1]
    exact this
  · intro h x hx
    obtain ⟨j, hj, rfl⟩ := List.mem_iff_getElem.1 hx
    rw [bytesOf_length] at hj
    have h1 : j < (bytesOf s).length := by rw [bytesOf_length]; exact hj
    have := h j hj
    rw [bt_get, List.getD_eq_getElem?_getD, List.getElem?_eq_getElem h1] at this
    exact this
theorem ref_name (s : ByteArray) (hs : s.size ≤ 140737488351232) : Ev (fun k => logbookref04_Name.f k s) (nameV s) := by
  unfold nameV
  by_cases h0 : s.size = 0
  · rw [if_pos h0]
    exact Ev.step (fun k => logbookref04_Name.l0.eq_2 _ _ _) (Ev.neg (by omega) (Ev.step (fun k => logbookref04_Name.j1.eq_2 _ _ _ _) (Ev.neg (by simp) (Ev.neg (by omega) (Ev.now _)))))
  rw [if_neg h0]
  by_cases h64 : s.size > 64
  · rw [if_pos h64]
    exact name_long s hs h64 65 0 rfl
  rw [if_neg h64]
  by_cases hd : 48 ≤ bt s 0 ∧ bt s 0 ≤ 57
  · rw [if_pos hd]
    refine name_short s (by omega) (by omega) false s.size 0 (by omega) (fun h => by cases h) (fun _ => ⟨0, Nat.le_refl _, by omega, ?_⟩)
    unfold Good
    have e : bt s ((0 : Nat) : Int) = bt s 0 := rfl
    rw [e]
    omega
  · rw [if_neg hd]
    refine name_short s (by omega) (by omega) _ s.size 0 (by omega) (fun h j _ hj => ?_) (fun h => ?_)
    · have h1 := (nameB_iff _).1 ((all_bytes s).1 h j hj)
      unfold Good
      rcases Nat.eq_zero_or_pos j with hz | hz
      · subst hz
        have e : bt s ((0 : Nat) : Int) = bt s 0 := rfl
        rw [e] at h1 ⊢
        omega
      · omega
    · apply Classical.byContradiction
      intro hn
      have : (bytesOf s).all nameB = true := (all_bytes s).2 (fun j hj => by
        rw [nameB_iff]
        have : Good (bt s j) j := Classical.byContradiction fun hx => hn ⟨j, Nat.zero_le _, hj, hx⟩
        unfold Good at this
        omega)
      rw [this] at h
      cases h
/-! ### cuts -/
def idxE : List Int → Int
  | [] => -1
  | b :: l => if b = 61 then 0 else if idxE l = -1 then -1 else idxE l + 1
theorem u61 (b : UInt8) : (b == 61) = decide ((b.toNat : Int) = 61) := by
  by_cases h : b = 61
  · subst h
    rfl
  · rw [beq_false_of_ne h]
    symm
    apply decide_eq_false
    intro e
    apply h
    apply UInt8.toNat_inj.1
    show b.toNat = 61
    omega
theorem idx_eq : ∀ l : List UInt8, Lib.indexByte l 61 = idxE (l.map fun b => (b.toNat : Int))
  | [] => rfl
  | b :: l => by
    rw [List.map_cons, Lib.indexByte, idxE, idx_eq l, u61]
    simp only [decide_eq_true_eq, beq_iff_eq]
theorem idxE_cases : ∀ l : List Int, (idxE l = -1 ∧ ∀ j, j < l.length → l.getD j 0 ≠ 61) ∨ (∃ m : Nat, idxE l = m ∧ m < l.length ∧ l.getD m 0 = 61 ∧ ∀ j, j < m → l.getD j 0 ≠ 61)
  | [] => .inl ⟨rfl, fun j h => by simp at h⟩
  | c :: r => by
    by_cases e : c = 61
    · exact .inr ⟨0, by simp [idxE, e], by simp, by simpa using e, fun j h => by omega⟩
    · rcases idxE_cases r with ⟨h1, h2⟩ | ⟨m, h1, h2, h3, h4⟩
      · refine .inl ⟨by rw [idxE, if_neg e, if_pos h1], fun j hj => ?_⟩
        cases j with
        | zero => simpa using e
        | succ j => simpa using h2 j (by simpa using hj)
      · refine .inr ⟨m + 1, by rw [idxE, if_neg e, h1, if_neg (by omega)]; omega, by simpa using h2, by simpa using h3, fun j hj => ?_⟩
        cases j with
        | zero => simpa using e
        | succ j => simpa using h4 j (by omega)
def eqs : ByteArray := ⟨#[61]⟩
theorem index_tells (s : ByteArray) : stringslite_Index.f s eqs = some (idxE (bytesOf s)) := by
  have e : stringslite_Index.f s eqs = some (Lib.indexByte s.data.toList 61) := rfl
  rw [e, idx_eq]
  rfl
def splitV (s : ByteArray) (m : Nat) : ByteArray × ByteArray × Bool := if nameV (s.extract 0 m) = true then (s.extract 0 m, s.extract (m + 1) s.size, true) else (⟨#[]⟩, ⟨#[]⟩, false)
theorem weq {m n : Nat} (h : m ≤ n) (hn : n ≤ 140737488355328) : wrap64 ((m : Int) + ((eqs.size : Nat) : Int)) = ((m + 1 : Nat) : Int) := by
  have h1 : ((eqs.size : Nat) : Int) = 1 := rfl
  generalize ((eqs.size : Nat) : Int) = z at h1 ⊢
  subst h1
  exact wi h hn
theorem split_hit (s : ByteArray) (hs : s.size ≤ 140737488351232) (m : Nat) (h : idxE (bytesOf s) = m) (hm : m < s.size) : item_Split.f s = some (splitV s m) := by
  have b1 : m ≤ s.size := by omega
  have b2 : s.size ≤ 140737488355328 := by omega
  have e1 : strings_Cut.f s eqs = some (s.extract 0 m, s.extract (m + 1) s.size, true) := by
    unfold strings_Cut.f stringslite_Cut.f
    rw [index_tells, h]
    simp only [Option.bind_some]
    rw [weq b1 b2, if_pos (by omega), if_pos (by omega), if_pos (by omega), if_pos (by omega), if_pos (by omega)]
    rfl
  show (strings_Cut.f s eqs).bind _ = _
  rw [e1]
  simp only [Option.bind_some]
  rw [if_pos trivial, name_f]
  simp only [Option.bind_some]
  unfold splitV
  split <;> rfl
theorem split_miss (s : ByteArray) (h : idxE (bytesOf s) = -1) : item_Split.f s = some (⟨#[]⟩, ⟨#[]⟩, false) := by
  have e1 : strings_Cut.f s eqs = some (s, ⟨#[]⟩, false) := by
    unfold strings_Cut.f stringslite_Cut.f
    rw [index_tells, h]
    rfl
  show (strings_Cut.f s eqs).bind _ = _
  rw [e1]
  rfl
theorem ref_hit (s : ByteArray) (hs : s.size ≤ 140737488351232) (m : Nat) (hm : m < s.size) (he : bt s (m : Nat) = 61) (hn : ∀ j, j < m → bt s (j : Nat) ≠ 61) : ∀ (d i : Nat), d + i = m → Ev (fun k => logbookref04_Split.l0 k s i) (splitV s m)
  | 0, i, hd => by
    obtain rfl : i = m := by omega
    have hsz : (s.extract 0 i).size ≤ 140737488351232 := by
      rw [ByteArray.size_extract]
      omega
    refine Ev.step (fun k => logbookref04_Split.l0.eq_2 _ _ _) ?_
    rw [wi (i := i) (n := s.size) (by omega) (by omega)]
    refine Ev.pos (by omega) (Ev.pos (by omega) (Ev.pos he (Ev.pos (by omega) ?_)))
    rw [Int.toNat_natCast, Int.toNat_natCast]
    refine Ev.bind (ref_name _ hsz) ?_
    unfold splitV
    refine Ev.both (fun h => ?_) (fun h => ?_)
    · rw [if_pos h]
      exact Ev.pos (by omega) (Ev.pos (by omega) (Ev.now _))
    · rw [if_neg h]
      exact Ev.now _
  | d + 1, i, hd => by
    refine Ev.step (fun k => logbookref04_Split.l0.eq_2 _ _ _) (Ev.pos (by omega) (Ev.pos (by omega) (Ev.neg (hn i (by omega)) ?_)))
    rw [wi (i := i) (n := s.size) (by omega) (by omega)]
    exact ref_hit s hs m hm he hn d (i + 1) (by omega)
theorem ref_miss (s : ByteArray) (hs : s.size ≤ 140737488351232) (hn : ∀ j, j < s.size → bt s (j : Nat) ≠ 61) : ∀ (d i : Nat), d + i = s.size → Ev (fun k => logbookref04_Split.l0 k s i) (⟨#[]⟩, ⟨#[]⟩, false)
  | 0, i, hd => Ev.step (fun k => logbookref04_Split.l0.eq_2 _ _ _) (Ev.neg (by omega) (Ev.now _))
  | d + 1, i, hd => by
    refine Ev.step (fun k => logbookref04_Split.l0.eq_2 _ _ _) (Ev.pos (by omega) (Ev.pos (by omega) (Ev.neg (hn i (by omega)) ?_)))
    rw [wi (i := i) (n := s.size) (by omega) (by omega)]
    exact ref_miss s hs hn d (i + 1) (by omega)
theorem split_tells (s : ByteArray) (hs : s.size ≤ 140737488351232) : ∃ v, item_Split.f s = some v ∧ Ev (fun k => logbookref04_Split.f k s) v := by
  rcases idxE_cases (bytesOf s) with ⟨h1, h2⟩ | ⟨m, h1, h2, h3, h4⟩
  · refine ⟨_, split_miss s h1, ?_⟩
    exact ref_miss s hs (fun j hj => by rw [bt_get]; exact h2 j (by rw [bytesOf_length]; exact hj)) s.size 0 (by omega)
  · rw [bytesOf_length] at h2
    refine ⟨_, split_hit s hs m h1 h2, ?_⟩
    exact ref_hit s hs m h2 (by rw [bt_get]; exact h3) (fun j hj => by rw [bt_get]; exact h4 j hj) m 0 (by omega)
theorem split_sizes (s : ByteArray) (hs : s.size ≤ 140737488351232) : ∃ v, item_Split.f s = some v ∧ Ev (fun k => logbookref04_Split.f k s) v ∧ v.1.size + v.2.1.size ≤ s.size := by
  rcases idxE_cases (bytesOf s) with ⟨h1, h2⟩ | ⟨m, h1, h2, h3, h4⟩
  · refine ⟨_, split_miss s h1, ?_, Nat.zero_le _⟩
    exact ref_miss s hs (fun j hj => by rw [bt_get]; exact h2 j (by rw [bytesOf_length]; exact hj)) s.size 0 (by omega)
  · rw [bytesOf_length] at h2
    refine ⟨_, split_hit s hs m h1 h2, ref_hit s hs m h2 (by rw [bt_get]; exact h3) (fun j hj => by rw [bt_get]; exact h4 j hj) m 0 (by omega), ?_⟩
    unfold splitV
    split
    · show (s.extract 0 m).size + (s.extract (m + 1) s.size).size ≤ s.size
      rw [ByteArray.size_extract, ByteArray.size_extract]
      omega
    · exact Nat.zero_le _
/-! ### the reference: each text is put among those that rise -/
def less (a b : ByteArray) : Bool := Op.bytesLess a.toList b.toList
theorem bl : ∀ (x y : List UInt8), Op.bytesLess x y = decide (x < y)
  | [], [] => rfl
  | _ :: _, [] => by simp [Op.bytesLess]
  | [], _ :: _ => by simp [Op.bytesLess]
  | a :: x, b :: y => by
    rw [Op.bytesLess, bl x y]
    by_cases h : a < b <;> by_cases h' : a = b <;> simp [h, h', List.cons_lt_cons_iff]
theorem less_iff : ∀ x y : List UInt8, Op.bytesLess x y = true ↔ x ≤ y ∧ x ≠ y := fun x y => by
  rw [bl, decide_eq_true_iff]
  constructor
  · intro h
    exact ⟨List.le_of_lt h, fun e => List.lt_irrefl x (by rw [e] at h ⊢; exact h)⟩
  · rintro ⟨h1, h2⟩
    exact Classical.byContradiction fun h => h2 (List.le_antisymm h1 (List.not_lt.1 h))
def ins (s : ByteArray) : List ByteArray → List ByteArray
  | [] => [s]
  | x :: r => if less s x = true then s :: x :: r else x :: ins s r
theorem mem_ins (s y : ByteArray) : ∀ l : List ByteArray, y ∈ ins s l ↔ y = s ∨ y ∈ l
  | [] => by simp [ins]
  | x :: r => by
    rw [ins]
    split
    · simp
    · rw [List.mem_cons, mem_ins s y r, List.mem_cons]
      constructor
      · rintro (h | h | h)
        · exact .inr (.inl h)
        · exact .inl h
        · exact .inr (.inr h)
      · rintro (h | h | h)
        · exact .inr (.inl h)
        · exact .inl h
        · exact .inr (.inr h)
theorem len_ins (s : ByteArray) : ∀ l : List ByteArray, (ins s l).length = l.length + 1
  | [] => rfl
  | x :: r => by
    rw [ins]
    split
    · rfl
    · rw [List.length_cons, len_ins s r, List.length_cons]
def Rises (l : List ByteArray) : Prop := l.Pairwise fun a b => a.toList ≤ b.toList ∧ a ≠ b
theorem ins_rises (s : ByteArray) : ∀ l : List ByteArray, Rises l → s ∉ l → Rises (ins s l)
  | [], _, _ => by simp [ins, Rises]
  | x :: r, h, hs => by
    obtain ⟨h1, h2⟩ := List.pairwise_cons.1 h
    rw [ins]
    by_cases g : less s x = true
    · rw [if_pos g]
      have g1 := (less_iff _ _).1 g
      refine List.pairwise_cons.2 ⟨fun y hy => ?_, h⟩
      rcases List.mem_cons.1 hy with rfl | hy
      · exact ⟨g1.1, fun e => g1.2 (by rw [e])⟩
      · exact ⟨List.le_trans g1.1 (h1 y hy).1, fun e => hs (by rw [e]; exact List.mem_cons_of_mem _ hy)⟩
    · rw [if_neg g]
      refine List.pairwise_cons.2 ⟨fun y hy => ?_, ins_rises s r h2 (fun e => hs (List.mem_cons_of_mem _ e))⟩
      rcases (mem_ins s y r).1 hy with rfl | hy
      · have hne : x ≠ y := fun e => hs (by rw [e]; simp)
        refine ⟨?_, hne⟩
        rcases List.le_total x.toList y.toList with k | k
        · exact k
        · exact absurd ((less_iff _ _).2 ⟨k, fun e => hne (toList_inj e).symm⟩) g
      · exact h1 y hy
open Classical in
theorem put_go (l : List ByteArray) (s : ByteArray) (hl : l.length ≤ 100) : ∀ (d i : Nat) (out : List ByteArray) (done : Bool), d + i = l.length → out.length ≤ 2 * i →
    Ev (fun k => logbookref04_Put.l0 k l s out done i) (if s ∈ l.drop i then l else out ++ (if done = true then l.drop i else ins s (l.drop i)))
  | 0, i, out, done, hd, ho => by
    have e : l.drop i = [] := List.drop_of_length_le (by omega)
    rw [e, if_neg (by simp)]
    refine Ev.step (fun k => logbookref04_Put.l0.eq_2 _ _ _ _ _ _) (Ev.neg (by omega) (Ev.both (fun h => ?_) (fun h => ?_)))
    · rw [if_pos h, List.append_nil]
      exact Ev.now _
    · rw [if_neg h]
      exact Ev.pos (by omega) (Ev.now _)
  | d + 1, i, out, done, hd, ho => by
    have hi : i < l.length := by omega
    have hg : rdOf ByteArray.empty l (i : Int) = l[i] := by
      unfold rdOf
      rw [Int.toNat_natCast, List.getD_eq_getElem?_getD, List.getElem?_eq_getElem hi]
      rfl
    have hdr : l.drop i = l[i] :: l.drop (i + 1) := List.drop_eq_getElem_cons hi
    refine Ev.step (fun k => logbookref04_Put.l0.eq_2 _ _ _ _ _ _) ?_
    rw [hg, wi (i := i) (n := l.length) (by omega) (by omega), hdr]
    generalize l[i] = x
    refine Ev.pos (by omega) (Ev.pos (by omega) ?_)
    by_cases hx : x.toList = s.toList
    · have e : x = s := toList_inj hx
      rw [if_pos (by rw [e]; simp)]
      exact Ev.pos hx (Ev.now _)
    · have hne : s ≠ x := fun e => hx (by rw [e])
      have hm : (s ∈ x :: l.drop (i + 1)) = (s ∈ l.drop (i + 1)) := by
        rw [List.mem_cons]
        exact propext ⟨fun h => h.resolve_left hne, .inr⟩
      simp only [hm]
      refine Ev.neg hx (Ev.both (fun h => ?_) (fun h => ?_))
      · refine Ev.both (fun hdn => Ev.pos (by omega) ?_) (fun hdn => Ev.pos (by omega) (Ev.bindc rfl (Ev.pos (by rw [List.length_append]; simp; omega) ?_)))
        · subst hdn
          refine Ev.eq (put_go l s hl d (i + 1) (out ++ [x]) true (by omega) (by simp; omega)) ?_
          simp
        · refine Ev.eq (put_go l s hl d (i + 1) ((out ++ [s]) ++ [x]) true (by omega) ?_) ?_
          · simp
            omega
          · have hl2 : less s x = true := h
            rw [if_neg hdn, ins, if_pos hl2]
            simp
      · refine Ev.pos (by omega) (Ev.eq (put_go l s hl d (i + 1) (out ++ [x]) done (by omega) (by simp; omega)) ?_)
        have hl2 : ¬ less s x = true := h
        rw [ins, if_neg hl2]
        cases done <;> simp
open Classical in
noncomputable def putS (l : List ByteArray) (s : ByteArray) : List ByteArray := if s ∈ l then l else ins s l
open Classical in
theorem put_tells (l : List ByteArray) (s : ByteArray) (hl : l.length ≤ 100) : Ev (fun k => logbookref04_Put.f k l s) (putS l s) := by
  have := put_go l s hl l.length 0 [] false (by omega) (by simp)
  refine Ev.eq this ?_
  unfold putS
  simp
theorem unique : ∀ (a b : List ByteArray), Rises a → Rises b → (∀ x, x ∈ a ↔ x ∈ b) → a = b
  | [], [], _, _, _ => rfl
  | [], y :: b, _, _, h => by
    have := (h y).2 (by simp)
    simp at this
  | x :: a, [], _, _, h => by
    have := (h x).1 (by simp)
    simp at this
  | x :: a, y :: b, ha, hb, h => by
    obtain ⟨a1, a2⟩ := List.pairwise_cons.1 ha
    obtain ⟨b1, b2⟩ := List.pairwise_cons.1 hb
    have hxy : x = y := by
      rcases List.mem_cons.1 ((h x).1 (by simp)) with e | e
      · exact e
      · rcases List.mem_cons.1 ((h y).2 (by simp)) with k | k
        · exact k.symm
        · exact toList_inj (List.le_antisymm (a1 y k).1 (b1 x e).1)
    subst hxy
    congr 1
    refine unique a b a2 b2 (fun z => ⟨fun hz => ?_, fun hz => ?_⟩)
    · rcases List.mem_cons.1 ((h z).1 (List.mem_cons_of_mem _ hz)) with e | e
      · exact absurd e.symm (a1 z hz).2
      · exact e
    · rcases List.mem_cons.1 ((h z).2 (List.mem_cons_of_mem _ hz)) with e | e
      · exact absurd e.symm (b1 z hz).2
      · exact e
open Classical in
theorem putS_len {acc : List ByteArray} {x : ByteArray} {i : Nat} (ha : acc.length ≤ i) : (putS acc x).length ≤ i + 1 := by
  unfold putS
  split
  · omega
  · rw [len_ins]
    omega
open Classical in
theorem putS_rises {acc : List ByteArray} {x : ByteArray} (hr : Rises acc) : Rises (putS acc x) := by
  unfold putS
  split
  · exact hr
  · rename_i g
    exact ins_rises x acc hr g
open Classical in
theorem putS_mem {acc : List ByteArray} {x y : ByteArray} : y ∈ putS acc x ↔ y ∈ acc ∨ y = x := by
  unfold putS
  split
  · rename_i g
    constructor
    · exact .inl
    · rintro (h | rfl)
      · exact h
      · exact g
  · rw [mem_ins]
    constructor
    · rintro (h | h)
      · exact .inr h
      · exact .inl h
    · rintro (h | h)
      · exact .inr h
      · exact .inl h
/-! ### items by their fields, and then as they rise -/
theorem fld (x : ByteArray) (hx : x.size ≤ 140737488351232) : item_Field.f x = some (fieldV x) ∧ Ev (fun k => logbookref04_Field.f k x) (fieldV x) := by
  obtain ⟨v, hv, hr, _⟩ := split_sizes x hx
  have e1 : item_Field.f x = some v.1 := by
    unfold item_Field.f
    rw [hv]
    rfl
  have e : fieldV x = v.1 := by
    unfold fieldV
    rw [e1]
    rfl
  rw [e]
  exact ⟨e1, Ev.bind hr (Ev.now _)⟩
def RF (l : List ByteArray) : Prop := l.Pairwise ltF
theorem uniqueF : ∀ a b : List ByteArray, RF a → RF b → (∀ x, x ∈ a ↔ x ∈ b) → a = b
  | [], [], _, _, _ => rfl
  | [], y :: b, _, _, h => absurd ((h y).2 (by simp)) (by simp)
  | x :: a, [], _, _, h => absurd ((h x).1 (by simp)) (by simp)
  | x :: a, y :: b, ha, hb, h => by
    obtain ⟨a1, a2⟩ := List.pairwise_cons.1 ha
    obtain ⟨b1, b2⟩ := List.pairwise_cons.1 hb
    have e : x = y := by
      rcases List.mem_cons.1 ((h x).1 (by simp)) with e | h1
      · exact e
      · rcases List.mem_cons.1 ((h y).2 (by simp)) with e | h2
        · exact e.symm
        · exact absurd (ltF_trans (a1 y h2) (b1 x h1)) (ltF_irrefl x)
    subst e
    congr 1
    refine uniqueF a b a2 b2 (fun z => ⟨fun hz => ?_, fun hz => ?_⟩)
    · rcases List.mem_cons.1 ((h z).1 (List.mem_cons_of_mem _ hz)) with e | h1
      · rw [e] at hz
        exact absurd (a1 x hz) (ltF_irrefl x)
      · exact h1
    · rcases List.mem_cons.1 ((h z).2 (List.mem_cons_of_mem _ hz)) with e | h1
      · rw [e] at hz
        exact absurd (b1 x hz) (ltF_irrefl x)
      · exact h1
/-! the program -/
def mkb (t : T) : ByteArray := ⟨t.toArray⟩
theorem mkb_data (s : ByteArray) : mkb s.data.toList = s := by
  unfold mkb
  cases s
  simp
theorem comp_mem2 (zs : List T) : ∀ m, m ≤ zs.length → ∀ j, j < m → zs.toArray[j]! ∈ Lib.compactUpTo zs.toArray m
  | 0, _, j, hj => by omega
  | m + 1, hm, j, hj => by
    rw [Lib.compactUpTo_succ]
    rcases Nat.lt_or_ge j m with h1 | h1
    · exact List.mem_append_left _ (comp_mem2 zs m (by omega) j h1)
    · obtain rfl : j = m := by omega
      cases hk : Lib.keeps zs.toArray j with
      | true => simp
      | false =>
        have hk2 : ¬ (j = 0 ∨ zs.toArray[j]! ≠ zs.toArray[j - 1]!) := of_decide_eq_false hk
        have h0 : j ≠ 0 := fun e => hk2 (.inl e)
        have e : zs.toArray[j]! = zs.toArray[j - 1]! := Classical.byContradiction fun e => hk2 (.inr e)
        rw [e]
        exact List.mem_append_left _ (comp_mem2 zs j (by omega) (j - 1) (by omega))
theorem compact_mem (zs : List T) (t : T) : t ∈ Lib.compact zs ↔ t ∈ zs := by
  constructor
  · exact fun h => (comp_sub zs).subset h
  · intro h
    obtain ⟨j, hj, e⟩ := List.mem_iff_getElem.1 h
    have h2 := comp_mem2 zs _ (Nat.le_refl _) j hj
    rw [getE _ j hj, e] at h2
    exact h2
def rT (a b : T) : Prop := ¬ ltF (mkb b) (mkb a)
theorem rT_trans {a b c : T} (h : rT a b) (k : rT b c) : rT a c := ltF_ntrans k h
theorem rT_refl (a : T) : rT a a := ltF_irrefl _
theorem rT_anti {a b : T} (h : rT a b) (k : rT b a) : a = b := by
  have := ltF_total k h
  have e := congrArg (fun s : ByteArray => s.data.toList) this
  exact e
theorem comp_strictR (zs : List T) (h : zs.Pairwise rT) : ∀ m, m ≤ zs.length → (Lib.compactUpTo zs.toArray m).Pairwise (fun a b => rT a b ∧ a ≠ b) ∧ ∀ x ∈ Lib.compactUpTo zs.toArray m, 0 < m ∧ rT x zs.toArray[m - 1]!
  | 0, _ => ⟨by simp [Lib.compactUpTo], fun x hx => by simp [Lib.compactUpTo] at hx⟩
  | m + 1, hm => by
    obtain ⟨h1, h2⟩ := comp_strictR zs h m (by omega)
    have hstep : 0 < m → rT zs.toArray[m - 1]! zs.toArray[m]! := fun h0 => by
      rw [getE zs (m - 1) (by omega), getE zs m (by omega)]
      exact List.pairwise_iff_getElem.1 h (m - 1) m (by omega) (by omega) (by omega)
    rw [Lib.compactUpTo_succ]
    have ht : m + 1 - 1 = m := by omega
    rw [ht]
    cases hk : Lib.keeps zs.toArray m with
    | false =>
      simp only [Bool.false_eq_true, if_false, List.append_nil]
      exact ⟨h1, fun x hx => ⟨by omega, rT_trans (h2 x hx).2 (hstep (h2 x hx).1)⟩⟩
    | true =>
      simp only [if_true]
      refine ⟨List.pairwise_append.2 ⟨h1, by simp, fun a ha b hb => ?_⟩, fun x hx => ?_⟩
      · rw [List.mem_singleton.1 hb]
        obtain ⟨h0, h3⟩ := h2 a ha
        refine ⟨rT_trans h3 (hstep h0), fun e => ?_⟩
        have hne : zs.toArray[m]! ≠ zs.toArray[m - 1]! := by
          have := of_decide_eq_true hk
          rcases this with h' | h'
          · omega
          · exact h'
        apply hne
        have h4 : rT zs.toArray[m]! zs.toArray[m - 1]! := by rw [← e]; exact h3
        exact rT_anti h4 (hstep h0)
      · rcases List.mem_append.1 hx with hx | hx
        · exact ⟨by omega, rT_trans (h2 x hx).2 (hstep (h2 x hx).1)⟩
        · rw [List.mem_singleton.1 hx]
          exact ⟨by omega, rT_refl _⟩
theorem srt_mem (l : List ByteArray) (hF : ∀ x ∈ l, (item_Field.f x).isSome = true) (x : ByteArray) : x ∈ srtF l ↔ x ∈ l := by
  unfold srtF
  have hp := (List.mergeSort_perm (liftF l) fun x y => !(Go.Proofs.ltOf cmpT) y x).map (fun x : FTx => x.1)
  rw [hp.mem_iff, liftF_val l hF]
theorem srt_rises (l : List ByteArray) : (srtF l).Pairwise fun a b => ¬ ltF b a := by
  unfold srtF
  rw [List.pairwise_map]
  have h := List.pairwise_mergeSort (le := fun x y : FTx => !(Go.Proofs.ltOf cmpT) y x) (fun a b c h k => by
    simp only [Bool.not_eq_true'] at h k ⊢
    exact swoT.ntrans c b a k h) (fun a b => by
    cases h1 : Go.Proofs.ltOf cmpT b a with
    | false => rfl
    | true =>
      have : Go.Proofs.ltOf cmpT a b = false := (ltOf_no a b).2 (fun e => ltF_irrefl _ (ltF_trans e ((ltOf_iff b a).1 h1)))
      rw [this]
      rfl) (liftF l)
  refine h.imp (fun {a b} h => ?_)
  simp only [Bool.not_eq_true'] at h
  exact (ltOf_no b a).1 h
theorem compB_form (l : List ByteArray) : compB l = (Lib.compact (l.map (·.data.toList))).map mkb := rfl
theorem prog_mem (l : List ByteArray) (hF : ∀ x ∈ l, (item_Field.f x).isSome = true) (x : ByteArray) : x ∈ compB (srtF l) ↔ x ∈ l := by
  rw [compB_form, ← srt_mem l hF]
  constructor
  · intro h
    obtain ⟨t, ht, rfl⟩ := List.mem_map.1 h
    obtain ⟨y, hy, rfl⟩ := List.mem_map.1 ((compact_mem _ _).1 ht)
    rw [mkb_data]
    exact hy
  · intro h
    exact List.mem_map.2 ⟨x.data.toList, (compact_mem _ _).2 (List.mem_map.2 ⟨x, h, rfl⟩), mkb_data x⟩
theorem prog_rises (l : List ByteArray) : RF (compB (srtF l)) := by
  rw [compB_form]
  unfold RF
  rw [List.pairwise_map]
  have hz : ((srtF l).map (·.data.toList)).Pairwise rT := by
    rw [List.pairwise_map]
    refine (srt_rises l).imp (fun {a b} h => ?_)
    unfold rT
    rw [mkb_data, mkb_data]
    exact h
  refine (comp_strictR _ hz _ (Nat.le_refl _)).1.imp (fun {a b} h => ?_)
  refine Classical.byContradiction fun k => h.2 ?_
  exact rT_anti h.1 k
/-! the reference -/
theorem lt_rises {a b : ByteArray} (h : a.toList ≤ b.toList ∧ a ≠ b) : a.data.toList < b.data.toList := by
  rw [ByteArray.toList_eq, ByteArray.toList_eq] at h
  refine Classical.byContradiction fun k => h.2 ?_
  have := List.le_antisymm h.1 (List.not_lt.1 k)
  cases a
  cases b
  exact congrArg ByteArray.mk (Array.toList_inj.1 this)
theorem rdb (l : List ByteArray) (i : Nat) (hi : i < l.length) : rdOf ByteArray.empty l (i : Int) = l[i] := by
  unfold rdOf
  rw [Int.toNat_natCast, List.getD_eq_getElem?_getD, List.getElem?_eq_getElem hi]
  rfl
theorem flds_go (l : List ByteArray) (hl : l.length ≤ 100) (hz : ∀ x ∈ l, x.size ≤ 140737488351232) : ∀ (d i : Nat) (acc : List ByteArray), d + i = l.length → acc.length ≤ i → Rises acc → (∀ x, x ∈ acc ↔ x ∈ (l.take i).map fieldV) →
    ∃ F, Ev (fun k => logbookref04_Fields.l0 k l acc i) F ∧ Rises F ∧ F.length ≤ 100 ∧ ∀ x, x ∈ F ↔ x ∈ l.map fieldV
  | 0, i, acc, hd, ha, hr, hm => by
    refine ⟨acc, Ev.step (fun k => logbookref04_Fields.l0.eq_2 _ _ _ _) (Ev.neg (by omega) (Ev.now _)), hr, by omega, fun x => ?_⟩
    rw [hm, List.take_of_length_le (by omega)]
  | d + 1, i, acc, hd, ha, hr, hm => by
    have hi : i < l.length := by omega
    have hf := fld l[i] (hz _ (List.getElem_mem hi))
    have htk : l.take (i + 1) = l.take i ++ [l[i]] := List.take_succ_eq_append_getElem hi
    obtain ⟨F, h1, h2⟩ := flds_go l hl hz d (i + 1) (putS acc (fieldV l[i])) (by omega) (putS_len ha) (putS_rises hr) (fun y => by
      rw [putS_mem, htk, List.map_append, List.mem_append, hm]
      simp)
    refine ⟨F, Ev.step (fun k => logbookref04_Fields.l0.eq_2 _ _ _ _) ?_, h2⟩
    rw [rdb l i hi, wi (i := i) (n := l.length) (by omega) (by omega)]
    exact Ev.pos (by omega) (Ev.pos (by omega) (Ev.bind hf.2 (Ev.bind (put_tells acc _ (by omega)) h1)))
theorem of_go (l : List ByteArray) (hl : l.length ≤ 100) (hz : ∀ x ∈ l, x.size ≤ 140737488351232) (out F : List ByteArray) (hout : out.length ≤ 10000) (i : Nat) (hi : i < F.length) (R : List ByteArray)
    (go : ∀ acc, Rises acc → acc.length ≤ 100 → (∀ x, x ∈ acc ↔ x ∈ l ∧ fieldV x = F[i]) → Ev (fun k => logbookref04_Sorted.l0 k l (out ++ acc) F (wrap64 ((i : Int) + 1))) R) :
    ∀ (d j : Nat) (acc : List ByteArray), d + j = l.length → acc.length ≤ j → Rises acc → (∀ x, x ∈ acc ↔ x ∈ l.take j ∧ fieldV x = F[i]) → Ev (fun k => logbookref04_Sorted.l1 k l out F (i : Int) acc (j : Int)) R
  | 0, j, acc, hd, ha, hr, hm => by
    rw [List.take_of_length_le (by omega)] at hm
    exact Ev.step (fun k => logbookref04_Sorted.l1.eq_2 _ _ _ _ _ _ _) (Ev.neg (by omega) (Ev.pos (by omega) (go acc hr (by omega) hm)))
  | d + 1, j, acc, hd, ha, hr, hm => by
    have hj : j < l.length := by omega
    have hf := fld l[j] (hz _ (List.getElem_mem hj))
    have htk : l.take (j + 1) = l.take j ++ [l[j]] := List.take_succ_eq_append_getElem hj
    refine Ev.step (fun k => logbookref04_Sorted.l1.eq_2 _ _ _ _ _ _ _) (Ev.pos (by omega) (Ev.pos (by omega) ?_))
    rw [rdb l j hj, rdb F i hi, wi (i := j) (n := l.length) (by omega) (by omega)]
    refine Ev.bind hf.2 (Ev.pos (by omega) (Ev.pos (by omega) (Ev.both (fun e => Ev.bind (put_tells acc _ (by omega)) ?_) (fun e => ?_))))
    · have e2 : fieldV l[j] = F[i] := toList_inj e
      refine of_go l hl hz out F hout i hi R go d (j + 1) (putS acc l[j]) (by omega) (putS_len ha) (putS_rises hr) (fun y => ?_)
      rw [putS_mem, htk, List.mem_append, hm, List.mem_singleton]
      constructor
      · rintro (⟨h1, h2⟩ | rfl)
        · exact ⟨.inl h1, h2⟩
        · exact ⟨.inr rfl, e2⟩
      · rintro ⟨h1 | h1, h2⟩
        · exact .inl ⟨h1, h2⟩
        · exact .inr h1
    · refine of_go l hl hz out F hout i hi R go d (j + 1) acc (by omega) (by omega) hr (fun y => ?_)
      rw [hm, htk, List.mem_append, List.mem_singleton]
      constructor
      · rintro ⟨h1, h2⟩
        exact ⟨.inl h1, h2⟩
      · rintro ⟨h1 | h1, h2⟩
        · exact ⟨h1, h2⟩
        · rw [h1] at h2
          exact absurd (congrArg ByteArray.toList h2) e
theorem srt_go (l : List ByteArray) (hl : l.length ≤ 100) (hz : ∀ x ∈ l, x.size ≤ 140737488351232) (F : List ByteArray) (hF : Rises F) (hFl : F.length ≤ 100) (hFm : ∀ x, x ∈ F ↔ x ∈ l.map fieldV) : ∀ (d i : Nat) (out : List ByteArray), d + i = F.length → out.length ≤ 100 * i → RF out → (∀ x, x ∈ out ↔ x ∈ l ∧ fieldV x ∈ F.take i) →
    ∃ S, Ev (fun k => logbookref04_Sorted.l0 k l out F (i : Int)) S ∧ RF S ∧ ∀ x, x ∈ S ↔ x ∈ l
  | 0, i, out, hd, ho, hr, hm => by
    refine ⟨out, Ev.step (fun k => logbookref04_Sorted.l0.eq_2 _ _ _ _ _) (Ev.neg (by omega) (Ev.now _)), hr, fun x => ?_⟩
    rw [hm, List.take_of_length_le (by omega), hFm]
    exact ⟨fun h => h.1, fun h => ⟨h, List.mem_map.2 ⟨x, h, rfl⟩⟩⟩
  | d + 1, i, out, hd, ho, hr, hm => by
    have hi : i < F.length := by omega
    have htk : F.take (i + 1) = F.take i ++ [F[i]] := List.take_succ_eq_append_getElem hi
    -- the one row that the inner loop makes
    obtain ⟨acc, a1, a2, a3⟩ : ∃ acc : List ByteArray, Rises acc ∧ acc.length ≤ 100 ∧ ∀ x, x ∈ acc ↔ x ∈ l ∧ fieldV x = F[i] := by
      have : ∀ (d j : Nat) (acc : List ByteArray), d + j = l.length → acc.length ≤ j → Rises acc → (∀ x, x ∈ acc ↔ x ∈ l.take j ∧ fieldV x = F[i]) → ∃ acc : List ByteArray, Rises acc ∧ acc.length ≤ 100 ∧ ∀ x, x ∈ acc ↔ x ∈ l ∧ fieldV x = F[i] := by
        intro d
        induction d with
        | zero =>
          intro j acc hd ha hr hm
          rw [List.take_of_length_le (by omega)] at hm
          exact ⟨acc, hr, by omega, hm⟩
        | succ d ih =>
          intro j acc hd ha hr hm
          have hj : j < l.length := by omega
          have htk : l.take (j + 1) = l.take j ++ [l[j]] := List.take_succ_eq_append_getElem hj
          by_cases e : fieldV l[j] = F[i]
          · refine ih (j + 1) (putS acc l[j]) (by omega) (putS_len ha) (putS_rises hr) (fun y => ?_)
            rw [putS_mem, htk, List.mem_append, hm, List.mem_singleton]
            constructor
            · rintro (⟨h1, h2⟩ | rfl)
              · exact ⟨.inl h1, h2⟩
              · exact ⟨.inr rfl, e⟩
            · rintro ⟨h1 | h1, h2⟩
              · exact .inl ⟨h1, h2⟩
              · exact .inr h1
          · refine ih (j + 1) acc (by omega) (by omega) hr (fun y => ?_)
            rw [hm, htk, List.mem_append, List.mem_singleton]
            constructor
            · rintro ⟨h1, h2⟩
              exact ⟨.inl h1, h2⟩
            · rintro ⟨h1 | h1, h2⟩
              · exact ⟨h1, h2⟩
              · rw [h1] at h2
                exact absurd h2 e
      exact this l.length 0 [] (by omega) (Nat.zero_le _) List.Pairwise.nil (by simp)
    have hRF : RF (out ++ acc) := by
      unfold RF
      rw [List.pairwise_append]
      refine ⟨hr, ?_, fun x hx y hy => ?_⟩
      · refine List.pairwise_iff_getElem.2 (fun p q hp hq hpq => ?_)
        have h1 := List.pairwise_iff_getElem.1 a1 p q hp hq hpq
        have f1 := ((a3 _).1 (List.getElem_mem hp)).2
        have f2 := ((a3 _).1 (List.getElem_mem hq)).2
        exact .inr ⟨by rw [f1, f2], lt_rises h1⟩
      · have f1 := ((hm x).1 hx).2
        have f2 := ((a3 y).1 hy).2
        obtain ⟨p, hp, e⟩ := List.mem_iff_getElem.1 f1
        rw [List.length_take] at hp
        rw [List.getElem_take] at e
        have h1 := List.pairwise_iff_getElem.1 hF p i (by omega) hi (by omega)
        left
        rw [f2, ← e]
        exact lt_rises h1
    obtain ⟨S, s1, s2⟩ := srt_go l hl hz F hF hFl hFm d (i + 1) (out ++ acc) (by omega) (by rw [List.length_append]; omega) hRF (fun x => by
      rw [List.mem_append, hm, a3, htk, List.mem_append, List.mem_singleton]
      constructor
      · rintro (⟨h1, h2⟩ | ⟨h1, h2⟩)
        · exact ⟨h1, .inl h2⟩
        · exact ⟨h1, .inr h2⟩
      · rintro ⟨h1, h2 | h2⟩
        · exact .inl ⟨h1, h2⟩
        · exact .inr ⟨h1, h2⟩)
    refine ⟨S, Ev.step (fun k => logbookref04_Sorted.l0.eq_2 _ _ _ _ _) (Ev.pos (by omega) ?_), s2⟩
    refine of_go l hl hz out F (by omega) i hi S (fun acc2 b1 b2 b3 => ?_) l.length 0 [] (by omega) (Nat.zero_le _) List.Pairwise.nil (by simp)
    have e : acc2 = acc := unique _ _ b1 a1 (fun x => by rw [b3, a3])
    rw [e, wi (i := i) (n := F.length) (by omega) (by omega)]
    exact s1
theorem few100_go (l : List ByteArray) : ∀ (d i : Nat) (x : Int), d + i = l.length → ∃ b, Ev (fun k => logbooklaw04_few.l0 k l x i) b ∧ (b = true → l.length ≤ 100) := by
  have last : ∀ x : Int, ∃ b, Ev (fun _ => if (l.length : Int) ≤ 100 then (some (decide (x ≤ 20000))) else (some false)) b ∧ (b = true → l.length ≤ 100) := fun x => by
    by_cases h : (l.length : Int) ≤ 100
    · exact ⟨_, Ev.pos h (Ev.now _), fun _ => by omega⟩
    · exact ⟨_, Ev.neg h (Ev.now _), fun h => by cases h⟩
  intro d
  induction d with
  | zero =>
    intro i x hd
    obtain ⟨b, hb, h2⟩ := last x
    exact ⟨b, Ev.step (fun k => logbooklaw04_few.l0.eq_2 _ _ _ _) (Ev.neg (by omega) hb), h2⟩
  | succ d ih =>
    intro i x hd
    by_cases h : i < 100
    · obtain ⟨b, hb, h2⟩ := ih (i + 1) (wrap64 (x + (mn ((rdOf ByteArray.empty l (i : Int)).size : Int) 20000))) (by omega)
      refine ⟨b, Ev.step (fun k => logbooklaw04_few.l0.eq_2 _ _ _ _) ?_, h2⟩
      rw [wi (i := i) (n := 100) (by omega) (by omega)]
      exact Ev.pos (by omega) (Ev.pos (by omega) (Ev.pos (by omega) hb))
    · obtain ⟨b, hb, h2⟩ := last x
      exact ⟨b, Ev.step (fun k => logbooklaw04_few.l0.eq_2 _ _ _ _) (Ev.pos (by omega) (Ev.neg (by omega) hb)), h2⟩
theorem stexts_go (l : List ByteArray) (hl : l.length ≤ 1000000) : ∀ (d i : Nat), d + i = l.length → Ev (fun k => logbookref04_Texts.l0 k l l i) true
  | 0, i, hd => Ev.step (fun k => logbookref04_Texts.l0.eq_2 _ _ _ _) (Ev.neg (by omega) (Ev.now _))
  | d + 1, i, hd => by
    refine Ev.step (fun k => logbookref04_Texts.l0.eq_2 _ _ _ _) (Ev.pos (by omega) (Ev.pos (by omega) (Ev.pos (by omega) (Ev.pos rfl ?_))))
    rw [wi (i := i) (n := l.length) (by omega) (by omega)]
    exact stexts_go l hl d (i + 1) (by omega)
theorem stexts_tells (l : List ByteArray) (hl : l.length ≤ 1000000) : Ev (fun k => logbookref04_Texts.f k l l) true := Ev.pos rfl (stexts_go l hl l.length 0 (by omega))
theorem law (l : List ByteArray) (hz : ∀ x ∈ l, x.size ≤ 140737488351232) : ∃ k, logbooklaw04_ItemSorts.f k l = some true := by
  refine Ev.at ?_
  obtain ⟨b, hb, h2⟩ := few100_go l l.length 0 0 (by omega)
  refine Ev.bind hb (Ev.both (fun h => ?_) (fun _ => Ev.bind awake_tells (Ev.now _)))
  have hl := h2 h
  have hF : ∀ x ∈ l, (item_Field.f x).isSome = true := fun x hx => by
    rw [(fld x (hz x hx)).1]
    rfl
  obtain ⟨F, f1, f2, f3, f4⟩ := flds_go l hl hz l.length 0 [] (by omega) (Nat.zero_le _) List.Pairwise.nil (by simp)
  obtain ⟨S, s1, s2, s3⟩ := srt_go l hl hz F f2 f3 f4 F.length 0 [] (by omega) (Nat.zero_le _) List.Pairwise.nil (by simp)
  have hp : item_Sorted.f l = some (compB (srtF l)) := if_pos ⟨by omega, hF⟩
  have e : compB (srtF l) = S := uniqueF _ _ (prog_rises l) s2 (fun x => by rw [prog_mem l hF, s3])
  have hlen : (compB (srtF l)).length ≤ 1000000 := by
    rw [compB_form, List.length_map]
    have h1 := (comp_sub ((srtF l).map (·.data.toList))).length_le
    rw [List.length_map, srtF_len l hF] at h1
    omega
  rw [e] at hp hlen
  exact Ev.bindc hp (Ev.bind (Ev.bind f1 s1) (Ev.bind (stexts_tells S hlen) (Ev.pos rfl (Ev.bind awake_tells (Ev.now _)))))
end IO
end Go.Proofs.Ytnjimfdgdefenaa.Pure
namespace Go.Proofs.Ytnjimfdgdefenaa.PureItemSorts
set_option linter.unusedVariables false
open Go.Proofs.Ytnjimfdgdefenaa.PItemSorts
theorem ItemSorts (y0 : List (ByteArray)) (w0 : (y0.length ≤ maxLen ∧ y0.length * 16 ≤ 140737488351232 ∧ ∀ x ∈ y0, x.size ≤ 140737488351232)) : ∃ k, logbooklaw04_ItemSorts.f k y0 = some true := Pure.IO.law y0 w0.2.2
end Go.Proofs.Ytnjimfdgdefenaa.PureItemSorts
