/- ItemSplits: names and cuts are the reference's; in plain Lean. -/
import Derived.Test.YtnjimfdgdefenaaPItemSplitsx3
import Derived.Test.YtnjimfdgdefenaaStr
import Derived.Test.YtnjimfdgdefenaaEvs
namespace Go.Proofs.Ytnjimfdgdefenaa.Pure
open Go.RowKit Go.Proofs.Ytnjimfdgdefenaa.PItemSplits Go.Proofs.YtnjimfdgdefenaaW.PrintWords Go.Proofs.YtnjimfdgdefenaaW.PrintMore Go.Proofs.Ytnjimfdgdefenaa.Evs Go.Proofs.Ytnjimfdgdefenaa.Str Go.Proofs.Ytnjimfdgdefenaa.Conv
set_option linter.unusedVariables false
set_option linter.unusedSimpArgs false
namespace IS
theorem t1 : sortB [(⟨#[66, 61, 50]⟩ : ByteArray), (⟨#[65, 61, 49]⟩ : ByteArray), (⟨#[66, 61, 50]⟩ : ByteArray)] = [(⟨#[65, 61, 49]⟩ : ByteArray), (⟨#[66, 61, 50]⟩ : ByteArray), (⟨#[66, 61, 50]⟩ : ByteArray)] := by
  have h1 : ¬ ([66, 61, 50] : List UInt8) ≤ [65, 61, 49] := by decide
  have h2 : ([65, 61, 49] : List UInt8) ≤ [66, 61, 50] := by decide
  have h3 : ([66, 61, 50] : List UInt8) ≤ [66, 61, 50] := by decide
  simp [sortB, List.mergeSort, List.MergeSort.Internal.splitInTwo, List.merge, h1, h2, h3]
theorem t3 : compB [(⟨#[65, 61, 49]⟩ : ByteArray), (⟨#[66, 61, 50]⟩ : ByteArray), (⟨#[66, 61, 50]⟩ : ByteArray)] = [(⟨#[65, 61, 49]⟩ : ByteArray), (⟨#[66, 61, 50]⟩ : ByteArray)] := by decide +kernel
theorem t4 : item_Split.f (⟨#[66, 61, 50]⟩ : ByteArray) = some (⟨#[66]⟩, ⟨#[50]⟩, true) := by decide +kernel
theorem t5 : item_Split.f (⟨#[65, 61, 49]⟩ : ByteArray) = some (⟨#[65]⟩, ⟨#[49]⟩, true) := by decide +kernel
theorem t6 : item_Split.f (⟨#[65, 61, 98, 61, 99]⟩ : ByteArray) = some (⟨#[65]⟩, ⟨#[98, 61, 99]⟩, true) := by decide +kernel
theorem t7 : logbookref04_Texts.f 10 [(⟨#[65, 61, 49]⟩ : ByteArray), (⟨#[66, 61, 50]⟩ : ByteArray)] [(⟨#[65, 61, 49]⟩ : ByteArray), (⟨#[66, 61, 50]⟩ : ByteArray)] = some true := by decide +kernel
theorem t8 : Ev (fun k => logbookref04_Texts.f k [(⟨#[65, 61, 49]⟩ : ByteArray), (⟨#[66, 61, 50]⟩ : ByteArray)] [(⟨#[65, 61, 49]⟩ : ByteArray), (⟨#[66, 61, 50]⟩ : ByteArray)]) true := ⟨10, fun k hk => by
  obtain ⟨m, rfl⟩ : ∃ m, k = m + 10 := ⟨k - 10, by omega⟩
  have h : ∀ m, logbookref04_Texts.f (m + 10) [(⟨#[65, 61, 49]⟩ : ByteArray), (⟨#[66, 61, 50]⟩ : ByteArray)] [(⟨#[65, 61, 49]⟩ : ByteArray), (⟨#[66, 61, 50]⟩ : ByteArray)] = some true := fun m => by
    induction m with
    | zero => exact t7
    | succ m ih => rw [show m + 1 + 10 = m + 10 + 1 by omega]; exact logbookref04_Texts.mono _ _ (m + 10) _ ih
  exact h m⟩
def L3 : List ByteArray := [(⟨#[66, 61, 50]⟩ : ByteArray), (⟨#[65, 61, 49]⟩ : ByteArray), (⟨#[66, 61, 50]⟩ : ByteArray)]
theorem check_tells : Ev (fun k => item_Check.f k L3) ([(⟨#[65, 61, 49]⟩ : ByteArray), (⟨#[66, 61, 50]⟩ : ByteArray)], 0) := by
  have q1 : wrap64 ((0 : Int) + 1) = 1 := by decide +kernel
  have q2 : wrap64 ((1 : Int) + 1) = 2 := by decide +kernel
  have q3 : wrap64 ((2 : Int) + 1) = 3 := by decide +kernel
  refine Ev.neg (by decide +kernel) (Ev.neg (by decide +kernel) ?_)
  refine Ev.step (fun k => item_Check.l0.eq_2 _ _ _ _ _ _) (Ev.pos (by decide +kernel) (Ev.pos (by decide +kernel) (Ev.pos (by decide +kernel) (Ev.neg (by decide +kernel) (Ev.bindc t4 (Ev.pos rfl ?_))))))
  rw [q1]
  refine Ev.step (fun k => item_Check.l0.eq_2 _ _ _ _ _ _) (Ev.pos (by decide +kernel) (Ev.pos (by decide +kernel) (Ev.pos (by decide +kernel) (Ev.neg (by decide +kernel) (Ev.bindc t5 (Ev.pos rfl ?_))))))
  rw [q2]
  refine Ev.step (fun k => item_Check.l0.eq_2 _ _ _ _ _ _) (Ev.pos (by decide +kernel) (Ev.pos (by decide +kernel) (Ev.pos (by decide +kernel) (Ev.neg (by decide +kernel) (Ev.bindc t4 (Ev.pos rfl ?_))))))
  rw [q3]
  refine Ev.step (fun k => item_Check.l0.eq_2 _ _ _ _ _ _) (Ev.neg (by decide +kernel) (Ev.neg (by decide +kernel) ?_))
  have e1 : slices_Clone_string_string.f L3 = some L3 := if_pos (by decide)
  have e2 : slices_Sort_string_string.f L3 = some [(⟨#[65, 61, 49]⟩ : ByteArray), (⟨#[66, 61, 50]⟩ : ByteArray), (⟨#[66, 61, 50]⟩ : ByteArray)] := by
    unfold slices_Sort_string_string.f
    rw [if_pos (by decide)]
    unfold L3
    rw [t1]
  have e3 : slices_Compact_string_string.f [(⟨#[65, 61, 49]⟩ : ByteArray), (⟨#[66, 61, 50]⟩ : ByteArray), (⟨#[66, 61, 50]⟩ : ByteArray)] = some [(⟨#[65, 61, 49]⟩ : ByteArray), (⟨#[66, 61, 50]⟩ : ByteArray)] := by
    unfold slices_Compact_string_string.f
    rw [t3]
  exact Ev.bindc e1 (Ev.bindc e2 (Ev.bindc e3 (Ev.now _)))
theorem awake_tells : Ev (fun k => logbooklaw04_awake.f k) true :=
  Ev.bind check_tells (Ev.bindc t6 (Ev.pos rfl (Ev.bind t8 (Ev.pos rfl (Ev.pos (by decide +kernel) (Ev.pos (by decide +kernel) (Ev.now _)))))))
/-! ### names -/
def Good (c : Int) (i : Nat) : Prop := c = 95 ∨ (65 ≤ c ∧ c ≤ 90) ∨ (48 ≤ c ∧ c ≤ 57 ∧ 0 < i)
theorem wi {i n : Nat} (h : i ≤ n) (hn : n ≤ 1000000) : wrap64 ((i : Int) + 1) = ((i + 1 : Nat) : Int) := by
  rw [w64 (by omega) (by omega)]
  omega
theorem j1_step (s : ByteArray) (i : Nat) (hi : i < s.size) (hs : s.size ≤ 100000) (R : Bool) (hg : Good (bt s i) i → Ev (fun k => logbookref04_Name.l0 k s ((i + 1 : Nat) : Int)) R) (hb : ¬ Good (bt s i) i → R = false) :
    Ev (fun k => logbookref04_Name.j1 k s i true) R := by
  refine Ev.step (fun k => logbookref04_Name.j1.eq_2 _ _ _ _) (Ev.pos rfl (Ev.pos (by omega) (Ev.pos (by omega) ?_)))
  rw [wi (i := i) (n := s.size) (by omega) (by omega)]
  unfold Good at hg hb
  generalize bt s (i : Int) = c at hg hb ⊢
  by_cases a : 65 ≤ c ∧ c ≤ 90
  · have e := hg (Or.inr (Or.inl a))
    exact Ev.pos a.1 (Ev.pos a.2 (Ev.pos (by omega) e))
  · by_cases u : c = 95
    · have e := hg (Or.inl u)
      exact Ev.both (fun _ => Ev.neg (by omega) (Ev.pos (by omega) (Ev.pos u e))) (fun _ => Ev.pos (by omega) (Ev.pos u e))
    · by_cases d : 48 ≤ c ∧ c ≤ 57
      · refine Ev.neg (by omega) (Ev.pos (by omega) (Ev.neg u (Ev.pos (by omega) ?_)))
        refine Ev.both (fun z => hg (Or.inr (Or.inr ⟨d.1, d.2, by omega⟩))) (fun z => Ev.eq (Ev.now _) (hb (by omega)).symm)
      · have e : false = R := (hb (by omega)).symm
        exact Ev.both (fun _ => Ev.neg (by omega) (Ev.pos (by omega) (Ev.neg u (Ev.neg (by omega) (Ev.eq (Ev.now _) e))))) (fun _ => Ev.both (fun _ => Ev.neg u (Ev.neg (by omega) (Ev.eq (Ev.now _) e))) (fun _ => Ev.neg u (Ev.eq (Ev.now _) e)))
theorem name_long (s : ByteArray) (hs : s.size ≤ 100000) (h : 64 < s.size) : ∀ (d i : Nat), d + i = 65 → Ev (fun k => logbookref04_Name.l0 k s i) false
  | 0, i, hd => by
    refine Ev.step (fun k => logbookref04_Name.l0.eq_2 _ _ _) (Ev.both (fun _ => ?_) (fun _ => ?_))
    · rw [decide_eq_false (show ¬ (i : Int) ≤ 64 by omega)]
      exact Ev.step (fun k => logbookref04_Name.j1.eq_2 _ _ _ _) (Ev.neg (by simp) (Ev.pos (by omega) (Ev.eq (Ev.now _) (decide_eq_false (by omega)))))
    · exact Ev.step (fun k => logbookref04_Name.j1.eq_2 _ _ _ _) (Ev.neg (by simp) (Ev.pos (by omega) (Ev.eq (Ev.now _) (decide_eq_false (by omega)))))
  | d + 1, i, hd => by
    refine Ev.step (fun k => logbookref04_Name.l0.eq_2 _ _ _) (Ev.pos (by omega) ?_)
    rw [decide_eq_true (show (i : Int) ≤ 64 by omega)]
    exact j1_step s i (by omega) hs false (fun _ => name_long s hs h d (i + 1) (by omega)) (fun _ => rfl)
theorem name_short (s : ByteArray) (hs : s.size ≤ 64) (h1 : 1 ≤ s.size) (R : Bool) : ∀ (d i : Nat), d + i = s.size → (R = true → ∀ j, i ≤ j → j < s.size → Good (bt s j) j) → (R = false → ∃ j, i ≤ j ∧ j < s.size ∧ ¬ Good (bt s j) j) → Ev (fun k => logbookref04_Name.l0 k s i) R
  | 0, i, hd, ht, hf => by
    have e : R = true := by
      cases R with
      | true => rfl
      | false =>
        obtain ⟨j, h2, h3, _⟩ := hf rfl
        omega
    refine Ev.step (fun k => logbookref04_Name.l0.eq_2 _ _ _) (Ev.neg (by omega) ?_)
    exact Ev.step (fun k => logbookref04_Name.j1.eq_2 _ _ _ _) (Ev.neg (by simp) (Ev.pos (by omega) (Ev.eq (Ev.now _) (by rw [e]; exact decide_eq_true (by omega)))))
  | d + 1, i, hd, ht, hf => by
    refine Ev.step (fun k => logbookref04_Name.l0.eq_2 _ _ _) (Ev.pos (by omega) ?_)
    rw [decide_eq_true (show (i : Int) ≤ 64 by omega)]
    refine j1_step s i (by omega) (by omega) R (fun hg => ?_) (fun hn => ?_)
    · refine name_short s hs h1 R d (i + 1) (by omega) (fun hr j h2 h3 => ht hr j (by omega) h3) (fun hr => ?_)
      obtain ⟨j, h2, h3, h4⟩ := hf hr
      refine ⟨j, ?_, h3, h4⟩
      rcases Nat.lt_or_ge i j with h | h
      · exact h
      · obtain rfl : j = i := by omega
        exact absurd hg h4
    · cases R with
      | false => rfl
      | true => exact absurd (ht rfl i (Nat.le_refl _) (by omega)) hn
def nameV (s : ByteArray) : Bool := if s.size = 0 then false else if s.size > 64 then false else if 48 ≤ bt s 0 ∧ bt s 0 ≤ 57 then false else (bytesOf s).all nameB
theorem name_f (s : ByteArray) : item_Name.f s = some (nameV s) := by
  unfold item_Name.f nameV
  split
  · rfl
  · split
    · rfl
    · split <;> rfl
theorem nameB_iff (c : Int) : nameB c = true ↔ (c = 95 ∨ (65 ≤ c ∧ c ≤ 90) ∨ (48 ≤ c ∧ c ≤ 57)) := by
  constructor
  · intro h
    apply Decidable.byContradiction
    intro hn
    rw [nameB_no hn] at h
    cases h
  · exact nameB_yes
theorem all_bytes (s : ByteArray) : (bytesOf s).all nameB = true ↔ ∀ j, j < s.size → nameB (bt s (j : Nat)) = true := by
  rw [List.all_eq_true]
  constructor
  · intro h j hj
    have h1 : j < (bytesOf s).length := by rw [bytesOf_length]; exact hj
    have := h _ (List.getElem_mem h1)
    rw [bt_get, List.getD_eq_getElem?_getD, List.getElem?_eq_getElem h1]
    exact this
  · intro h x hx
    obtain ⟨j, hj, rfl⟩ := List.mem_iff_getElem.1 hx
    rw [bytesOf_length] at hj
    have h1 : j < (bytesOf s).length := by rw [bytesOf_length]; exact hj
    have := h j hj
    rw [bt_get, List.getD_eq_getElem?_getD, List.getElem?_eq_getElem h1] at this
    exact this
theorem ref_name (s : ByteArray) (hs : s.size ≤ 100000) : Ev (fun k => logbookref04_Name.f k s) (nameV s) := by
  unfold nameV
  by_cases h0 : s.size = 0
  · rw [if_pos h0]
    exact Ev.step (fun k => logbookref04_Name.l0.eq_2 _ _ _) (Ev.neg (by omega) (Ev.step (fun k => logbookref04_Name.j1.eq_2 _ _ _ _) (Ev.neg (by simp) (Ev.neg (by omega) (Ev.now _)))))
  rw [if_neg h0]
  by_cases h64 : s.size > 64
  · rw [if_pos h64]
    exact name_long s hs h64 65 0 rfl
  rw [if_neg h64]
  by_cases hd : 48 ≤ bt s 0 ∧ bt s 0 ≤ 57
  · rw [if_pos hd]
    refine name_short s (by omega) (by omega) false s.size 0 (by omega) (fun h => by cases h) (fun _ => ⟨0, Nat.le_refl _, by omega, ?_⟩)
    unfold Good
    have e : bt s ((0 : Nat) : Int) = bt s 0 := rfl
    rw [e]
    omega
  · rw [if_neg hd]
    refine name_short s (by omega) (by omega) _ s.size 0 (by omega) (fun h j _ hj => ?_) (fun h => ?_)
    · have h1 := (nameB_iff _).1 ((all_bytes s).1 h j hj)
      unfold Good
      rcases Nat.eq_zero_or_pos j with hz | hz
      · subst hz
        have e : bt s ((0 : Nat) : Int) = bt s 0 := rfl
        rw [e] at h1 ⊢
        omega
      · omega
    · apply Classical.byContradiction
      intro hn
      have : (bytesOf s).all nameB = true := (all_bytes s).2 (fun j hj => by
        rw [nameB_iff]
        have : Good (bt s j) j := Classical.byContradiction fun hx => hn ⟨j, Nat.zero_le _, hj, hx⟩
        unfold Good at this
        omega)
      rw [this] at h
      cases h
/-! ### cuts -/
def idxE : List Int → Int
  | [] => -1
  | b :: l => if b = 61 then 0 else if idxE l = -1 then -1 else idxE l + 1
theorem u61 (b : UInt8) : (b == 61) = decide ((b.toNat : Int) = 61) := by
  by_cases h : b = 61
  · subst h
    rfl
  · rw [beq_false_of_ne h]
    symm
    apply decide_eq_false
    intro e
    apply h
    apply UInt8.toNat_inj.1
    show b.toNat = 61
    omega
theorem idx_eq : ∀ l : List UInt8, Lib.indexByte l 61 = idxE (l.map fun b => (b.toNat : Int))
  | [] => rfl
  | b :: l => by
    rw [List.map_cons, Lib.indexByte, idxE, idx_eq l, u61]
    simp only [decide_eq_true_eq, beq_iff_eq]
theorem idxE_cases : ∀ l : List Int, (idxE l = -1 ∧ ∀ j, j < l.length → l.getD j 0 ≠ 61) ∨ (∃ m : Nat, idxE l = m ∧ m < l.length ∧ l.getD m 0 = 61 ∧ ∀ j, j < m → l.getD j 0 ≠ 61)
  | [] => .inl ⟨rfl, fun j h => by simp at h⟩
  | c :: r => by
    by_cases e : c = 61
    · exact .inr ⟨0, by simp [idxE, e], by simp, by simpa using e, fun j h => by omega⟩
    · rcases idxE_cases r with ⟨h1, h2⟩ | ⟨m, h1, h2, h3, h4⟩
      · refine .inl ⟨by rw [idxE, if_neg e, if_pos h1], fun j hj => ?_⟩
        cases j with
        | zero => simpa using e
        | succ j => simpa using h2 j (by simpa using hj)
      · refine .inr ⟨m + 1, by rw [idxE, if_neg e, h1, if_neg (by omega)]; omega, by simpa using h2, by simpa using h3, fun j hj => ?_⟩
        cases j with
        | zero => simpa using e
        | succ j => simpa using h4 j (by omega)
def eqs : ByteArray := ⟨#[61]⟩
theorem index_tells (s : ByteArray) : stringslite_Index.f s eqs = some (idxE (bytesOf s)) := by
  have e : stringslite_Index.f s eqs = some (Lib.indexByte s.data.toList 61) := rfl
  rw [e, idx_eq]
  rfl
def splitV (s : ByteArray) (m : Nat) : ByteArray × ByteArray × Bool := if nameV (s.extract 0 m) = true then (s.extract 0 m, s.extract (m + 1) s.size, true) else (⟨#[]⟩, ⟨#[]⟩, false)
theorem weq {m n : Nat} (h : m ≤ n) (hn : n ≤ 1000000) : wrap64 ((m : Int) + ((eqs.size : Nat) : Int)) = ((m + 1 : Nat) : Int) := by
  have h1 : ((eqs.size : Nat) : Int) = 1 := rfl
  generalize ((eqs.size : Nat) : Int) = z at h1 ⊢
  subst h1
  exact wi h hn
theorem split_hit (s : ByteArray) (hs : s.size ≤ 100000) (m : Nat) (h : idxE (bytesOf s) = m) (hm : m < s.size) : item_Split.f s = some (splitV s m) := by
  have b1 : m ≤ s.size := by omega
  have b2 : s.size ≤ 1000000 := by omega
  have e1 : strings_Cut.f s eqs = some (s.extract 0 m, s.extract (m + 1) s.size, true) := by
    unfold strings_Cut.f stringslite_Cut.f
    rw [index_tells, h]
    simp only [Option.bind_some]
    rw [weq b1 b2, if_pos (by omega), if_pos (by omega), if_pos (by omega), if_pos (by omega), if_pos (by omega)]
    rfl
  show (strings_Cut.f s eqs).bind _ = _
  rw [e1]
  simp only [Option.bind_some]
  rw [if_pos trivial, name_f]
  simp only [Option.bind_some]
  unfold splitV
  split <;> rfl
theorem split_miss (s : ByteArray) (h : idxE (bytesOf s) = -1) : item_Split.f s = some (⟨#[]⟩, ⟨#[]⟩, false) := by
  have e1 : strings_Cut.f s eqs = some (s, ⟨#[]⟩, false) := by
    unfold strings_Cut.f stringslite_Cut.f
    rw [index_tells, h]
    rfl
  show (strings_Cut.f s eqs).bind _ = _
  rw [e1]
  rfl
theorem ref_hit (s : ByteArray) (hs : s.size ≤ 100000) (m : Nat) (hm : m < s.size) (he : bt s (m : Nat) = 61) (hn : ∀ j, j < m → bt s (j : Nat) ≠ 61) : ∀ (d i : Nat), d + i = m → Ev (fun k => logbookref04_Split.l0 k s i) (splitV s m)
  | 0, i, hd => by
    obtain rfl : i = m := by omega
    have hsz : (s.extract 0 i).size ≤ 100000 := by
      rw [ByteArray.size_extract]
      omega
    refine Ev.step (fun k => logbookref04_Split.l0.eq_2 _ _ _) ?_
    rw [wi (i := i) (n := s.size) (by omega) (by omega)]
    refine Ev.pos (by omega) (Ev.pos (by omega) (Ev.pos he (Ev.pos (by omega) ?_)))
    rw [Int.toNat_natCast, Int.toNat_natCast]
    refine Ev.bind (ref_name _ hsz) ?_
    unfold splitV
    refine Ev.both (fun h => ?_) (fun h => ?_)
    · rw [if_pos h]
      exact Ev.pos (by omega) (Ev.pos (by omega) (Ev.now _))
    · rw [if_neg h]
      exact Ev.now _
  | d + 1, i, hd => by
    refine Ev.step (fun k => logbookref04_Split.l0.eq_2 _ _ _) (Ev.pos (by omega) (Ev.pos (by omega) (Ev.neg (hn i (by omega)) ?_)))
    rw [wi (i := i) (n := s.size) (by omega) (by omega)]
    exact ref_hit s hs m hm he hn d (i + 1) (by omega)
theorem ref_miss (s : ByteArray) (hs : s.size ≤ 100000) (hn : ∀ j, j < s.size → bt s (j : Nat) ≠ 61) : ∀ (d i : Nat), d + i = s.size → Ev (fun k => logbookref04_Split.l0 k s i) (⟨#[]⟩, ⟨#[]⟩, false)
  | 0, i, hd => Ev.step (fun k => logbookref04_Split.l0.eq_2 _ _ _) (Ev.neg (by omega) (Ev.now _))
  | d + 1, i, hd => by
    refine Ev.step (fun k => logbookref04_Split.l0.eq_2 _ _ _) (Ev.pos (by omega) (Ev.pos (by omega) (Ev.neg (hn i (by omega)) ?_)))
    rw [wi (i := i) (n := s.size) (by omega) (by omega)]
    exact ref_miss s hs hn d (i + 1) (by omega)
theorem split_tells (s : ByteArray) (hs : s.size ≤ 100000) : ∃ v, item_Split.f s = some v ∧ Ev (fun k => logbookref04_Split.f k s) v := by
  rcases idxE_cases (bytesOf s) with ⟨h1, h2⟩ | ⟨m, h1, h2, h3, h4⟩
  · refine ⟨_, split_miss s h1, ?_⟩
    exact ref_miss s hs (fun j hj => by rw [bt_get]; exact h2 j (by rw [bytesOf_length]; exact hj)) s.size 0 (by omega)
  · rw [bytesOf_length] at h2
    refine ⟨_, split_hit s hs m h1 h2, ?_⟩
    exact ref_hit s hs m h2 (by rw [bt_get]; exact h3) (fun j hj => by rw [bt_get]; exact h4 j hj) m 0 (by omega)
end IS
theorem ItemSplits : logbooklaw04_ItemSplits.Pure := by
  intro a0 hs
  refine Ev.at ?_
  refine Ev.both (fun _ => Ev.bind IS.awake_tells (Ev.now _)) (fun h => ?_)
  obtain ⟨v, h1, h2⟩ := IS.split_tells a0 (by omega)
  have h3 := IS.ref_name a0 (by omega)
  have e1 : item_Field.f a0 = some v.1 := by
    unfold item_Field.f
    rw [h1]
    rfl
  have e2 : Ev (fun k => logbookref04_Field.f k a0) v.1 := Ev.bind h2 (Ev.now _)
  exact Ev.bindc h1 (Ev.bind h2 (Ev.pos rfl (Ev.pos rfl (Ev.pos (by simp) (Ev.bindc (IS.name_f a0) (Ev.bind h3 (Ev.pos (by simp) (Ev.bindc e1 (Ev.bind e2 (Ev.pos rfl (Ev.bind IS.awake_tells (Ev.now _))))))))))))
end Go.Proofs.Ytnjimfdgdefenaa.Pure
