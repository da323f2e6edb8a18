/- What the laws of expr lean on: items, checked, sorted; the chapter's example: in plain Lean. -/
import Derived.Test.YtajlgbonapfckaaPExprAsksx
import Derived.Test.YtajlgbonapfckaaStr
import Derived.Test.YtajlgbonapfckaaEvs
import Derived.Test.YtajlgbonapfckaaSrt
namespace Go.Proofs.Ytajlgbonapfckaa.Pure
open Go.RowKit Go.Proofs.Ytajlgbonapfckaa.PExprAsks Go.Proofs.YtajlgbonapfckaaW.PrintWords Go.Proofs.YtajlgbonapfckaaW.PrintMore Go.Proofs.Ytajlgbonapfckaa.Evs Go.Proofs.Ytajlgbonapfckaa.Str Go.Proofs.Ytajlgbonapfckaa.Conv Go.Proofs.Ytajlgbonapfckaa.Srt
set_option linter.unusedVariables false
set_option linter.unusedSimpArgs false
namespace IE
def Good (c : Int) (i : Nat) : Prop := c = 95 ∨ (65 ≤ c ∧ c ≤ 90) ∨ (48 ≤ c ∧ c ≤ 57 ∧ 0 < i)
theorem wi {i n : Nat} (h : i ≤ n) (hn : n ≤ 140737488355328) : wrap64 ((i : Int) + 1) = ((i + 1 : Nat) : Int) := by
  rw [w64 (by omega) (by omega)]
  omega
theorem j1_step (s : ByteArray) (i : Nat) (hi : i < s.size) (hs : s.size ≤ 140737488351232) (R : Bool) (hg : Good (bt s i) i → Ev (fun k => logbookref04_Name.l0 k s ((i + 1 : Nat) : Int)) R) (hb : ¬ Good (bt s i) i → R = false) :
    Ev (fun k => logbookref04_Name.j1 k s i true) R := by
  refine Ev.step (fun k => logbookref04_Name.j1.eq_2 _ _ _ _) (Ev.pos rfl (Ev.pos (by omega) (Ev.pos (by omega) ?_)))
  rw [wi (i := i) (n := s.size) (by omega) (by omega)]
  unfold Good at hg hb
  generalize bt s (i : Int) = c at hg hb ⊢
  by_cases a : 65 ≤ c ∧ c ≤ 90
  · have e := hg (Or.inr (Or.inl a))
    exact Ev.pos a.1 (Ev.pos a.2 (Ev.pos (by omega) e))
  · by_cases u : c = 95
    · have e := hg (Or.inl u)
      exact Ev.both (fun _ => Ev.neg (by omega) (Ev.pos (by omega) (Ev.pos u e))) (fun _ => Ev.pos (by omega) (Ev.pos u e))
    · by_cases d : 48 ≤ c ∧ c ≤ 57
      · refine Ev.neg (by omega) (Ev.pos (by omega) (Ev.neg u (Ev.pos (by omega) ?_)))
        refine Ev.both (fun z => hg (Or.inr (Or.inr ⟨d.1, d.2, by omega⟩))) (fun z => Ev.eq (Ev.now _) (hb (by omega)).symm)
      · have e : false = R := (hb (by omega)).symm
        exact Ev.both (fun _ => Ev.neg (by omega) (Ev.pos (by omega) (Ev.neg u (Ev.neg (by omega) (Ev.eq (Ev.now _) e))))) (fun _ => Ev.both (fun _ => Ev.neg u (Ev.neg (by omega) (Ev.eq (Ev.now _) e))) (fun _ => Ev.neg u (Ev.eq (Ev.now _) e)))
theorem name_long (s : ByteArray) (hs : s.size ≤ 140737488351232) (h : 64 < s.size) : ∀ (d i : Nat), d + i = 65 → Ev (fun k => logbookref04_Name.l0 k s i) false
  | 0, i, hd => by
    refine Ev.step (fun k => logbookref04_Name.l0.eq_2 _ _ _) (Ev.both (fun _ => ?_) (fun _ => ?_))
    · rw [decide_eq_false (show ¬ (i : Int) ≤ 64 by omega)]
      exact Ev.step (fun k => logbookref04_Name.j1.eq_2 _ _ _ _) (Ev.neg (by simp) (Ev.pos (by omega) (Ev.eq (Ev.now _) (decide_eq_false (by omega)))))
    · exact Ev.step (fun k => logbookref04_Name.j1.eq_2 _ _ _ _) (Ev.neg (by simp) (Ev.pos (by omega) (Ev.eq (Ev.now _) (decide_eq_false (by omega)))))
  | d + 1, i, hd => by
    refine Ev.step (fun k => logbookref04_Name.l0.eq_2 _ _ _) (Ev.pos (by omega) ?_)
    rw [decide_eq_true (show (i : Int) ≤ 64 by omega)]
    exact j1_step s i (by omega) hs false (fun _ => name_long s hs h d (i + 1) (by omega)) (fun _ => rfl)
theorem name_short (s : ByteArray) (hs : s.size ≤ 64) (h1 : 1 ≤ s.size) (R : Bool) : ∀ (d i : Nat), d + i = s.size → (R = true → ∀ j, i ≤ j → j < s.size → Good (bt s j) j) → (R = false → ∃ j, i ≤ j ∧ j < s.size ∧ ¬ Good (bt s j) j) → Ev (fun k => logbookref04_Name.l0 k s i) R
  | 0, i, hd, ht, hf => by
    have e : R = true := by
      cases R with
      | true => rfl
      | false =>
        obtain ⟨j, h2, h3, _⟩ := hf rfl
        omega
    refine Ev.step (fun k => logbookref04_Name.l0.eq_2 _ _ _) (Ev.neg (by omega) ?_)
    exact Ev.step (fun k => logbookref04_Name.j1.eq_2 _ _ _ _) (Ev.neg (by simp) (Ev.pos (by omega) (Ev.eq (Ev.now _) (by rw [e]; exact decide_eq_true (by omega)))))
  | d + 1, i, hd, ht, hf => by
    refine Ev.step (fun k => logbookref04_Name.l0.eq_2 _ _ _) (Ev.pos (by omega) ?_)
    rw [decide_eq_true (show (i : Int) ≤ 64 by omega)]
    refine j1_step s i (by omega) (by omega) R (fun hg => ?_) (fun hn => ?_)
    · refine name_short s hs h1 R d (i + 1) (by omega) (fun hr j h2 h3 => ht hr j (by omega) h3) (fun hr => ?_)
      obtain ⟨j, h2, h3, h4⟩ := hf hr
      refine ⟨j, ?_, h3, h4⟩
      rcases Nat.lt_or_ge i j with h | h
      · exact h
      · obtain rfl : j = i := by omega
        exact absurd hg h4
    · cases R with
      | false => rfl
      | true => exact absurd (ht rfl i (Nat.le_refl _) (by omega)) hn
def nameV (s : ByteArray) : Bool := if s.size = 0 then false else if s.size > 64 then false else if 48 ≤ bt s 0 ∧ bt s 0 ≤ 57 then false else (bytesOf s).all nameB
theorem name_f (s : ByteArray) : item_Name.f s = some (nameV s) := by
  unfold item_Name.f nameV
  split
  · rfl
  · split
    · rfl
    · split <;> rfl
theorem nameB_iff (c : Int) : nameB c = true ↔ (c = 95 ∨ (65 ≤ c ∧ c ≤ 90) ∨ (48 ≤ c ∧ c ≤ 57)) := by
  constructor
  · intro h
    apply Decidable.byContradiction
    intro hn
    rw [nameB_no hn] at h
    cases h
  · exact nameB_yes
theorem all_bytes (s : ByteArray) : (bytesOf s).all nameB = true ↔ ∀ j, j < s.size → nameB (bt s (j : Nat)) = true := by
  rw [List.all_eq_true]
  constructor
  · intro h j hj
    have h1 : j < (bytesOf s).length := by rw [bytesOf_length]; exact hj
    have := h _ (List.getElem_mem h1)
    rw [bt_get, List.getD_eq_getElem?_getD, List.getElem?_eq_getElem h1]
    exact this
  · intro h x hx
    obtain ⟨j, hj, rfl⟩ := List.mem_iff_getElem.1 hx
    rw [bytesOf_length] at hj
    have h1 : j < (bytesOf s).length := by rw [bytesOf_length]; exact hj
    have := h j hj
    rw [bt_get, List.getD_eq_getElem?_getD, List.getElem?_eq_getElem h1] at this
    exact this
theorem ref_name (s : ByteArray) (hs : s.size ≤ 140737488351232) : Ev (fun k => logbookref04_Name.f k s) (nameV s) := by
  unfold nameV
  by_cases h0 : s.size = 0
  · rw [if_pos h0]
    exact Ev.step (fun k => logbookref04_Name.l0.eq_2 _ _ _) (Ev.neg (by omega) (Ev.step (fun k => logbookref04_Name.j1.eq_2 _ _ _ _) (Ev.neg (by simp) (Ev.neg (by omega) (Ev.now _)))))
  rw [if_neg h0]
  by_cases h64 : s.size > 64
  · rw [if_pos h64]
    exact name_long s hs h64 65 0 rfl
  rw [if_neg h64]
  by_cases hd : 48 ≤ bt s 0 ∧ bt s 0 ≤ 57
  · rw [if_pos hd]
    refine name_short s (by omega) (by omega) false s.size 0 (by omega) (fun h => by cases h) (fun _ => ⟨0, Nat.le_refl _, by omega, ?_⟩)
    unfold Good
    have e : bt s ((0 : Nat) : Int) = bt s 0 := rfl
    rw [e]
    omega
  · rw [if_neg hd]
    refine name_short s (by omega) (by omega) _ s.size 0 (by omega) (fun h j _ hj => ?_) (fun h => ?_)
    · have h1 := (nameB_iff _).1 ((all_bytes s).1 h j hj)
      unfold Good
      rcases Nat.eq_zero_or_pos j with hz | hz
      · subst hz
        have e : bt s ((0 : Nat) : Int) = bt s 0 := rfl
        rw [e] at h1 ⊢
        omega
      · omega
    · apply Classical.byContradiction
      intro hn
      have : (bytesOf s).all nameB = true := (all_bytes s).2 (fun j hj => by
        rw [nameB_iff]
        have : Good (bt s j) j := Classical.byContradiction fun hx => hn ⟨j, Nat.zero_le _, hj, hx⟩
        unfold Good at this
        omega)
      rw [this] at h
      cases h
def idxE : List Int → Int
  | [] => -1
  | b :: l => if b = 61 then 0 else if idxE l = -1 then -1 else idxE l + 1
theorem u61 (b : UInt8) : (b == 61) = decide ((b.toNat : Int) = 61) := by
  by_cases h : b = 61
  · subst h
    rfl
  · rw [beq_false_of_ne h]
    symm
    apply decide_eq_false
    intro e
    apply h
    apply UInt8.toNat_inj.1
    show b.toNat = 61
    omega
theorem idx_eq : ∀ l : List UInt8, Lib.indexByte l 61 = idxE (l.map fun b => (b.toNat : Int))
  | [] => rfl
  | b :: l => by
    rw [List.map_cons, Lib.indexByte, idxE, idx_eq l, u61]
    simp only [decide_eq_true_eq, beq_iff_eq]
theorem idxE_cases : ∀ l : List Int, (idxE l = -1 ∧ ∀ j, j < l.length → l.getD j 0 ≠ 61) ∨ (∃ m : Nat, idxE l = m ∧ m < l.length ∧ l.getD m 0 = 61 ∧ ∀ j, j < m → l.getD j 0 ≠ 61)
  | [] => .inl ⟨rfl, fun j h => by simp at h⟩
  | c :: r => by
    by_cases e : c = 61
    · exact .inr ⟨0, by simp [idxE, e], by simp, by simpa using e, fun j h => by omega⟩
    · rcases idxE_cases r with ⟨h1, h2⟩ | ⟨m, h1, h2, h3, h4⟩
      · refine .inl ⟨by rw [idxE, if_neg e, if_pos h1], fun j hj => ?_⟩
        cases j with
        | zero => simpa using e
        | succ j => simpa using h2 j (by simpa using hj)
      · refine .inr ⟨m + 1, by rw [idxE, if_neg e, h1, if_neg (by omega)]; omega, by simpa using h2, by simpa using h3, fun j hj => ?_⟩
        cases j with
        | zero => simpa using e
        | succ j => simpa using h4 j (by omega)
def eqs : ByteArray := ⟨#[61]⟩
theorem index_tells (s : ByteArray) : stringslite_Index.f s eqs = some (idxE (bytesOf s)) := by
  have e : stringslite_Index.f s eqs = some (Lib.indexByte s.data.toList 61) := rfl
  rw [e, idx_eq]
  rfl
def splitV (s : ByteArray) (m : Nat) : ByteArray × ByteArray × Bool := if nameV (s.extract 0 m) = true then (s.extract 0 m, s.extract (m + 1) s.size, true) else (⟨#[]⟩, ⟨#[]⟩, false)
theorem weq {m n : Nat} (h : m ≤ n) (hn : n ≤ 140737488355328) : wrap64 ((m : Int) + ((eqs.size : Nat) : Int)) = ((m + 1 : Nat) : Int) := by
  have h1 : ((eqs.size : Nat) : Int) = 1 := rfl
  generalize ((eqs.size : Nat) : Int) = z at h1 ⊢
  subst h1
  exact wi h hn
theorem split_hit (s : ByteArray) (hs : s.size ≤ 140737488351232) (m : Nat) (h : idxE (bytesOf s) = m) (hm : m < s.size) : item_Split.f s = some (splitV s m) := by
  have b1 : m ≤ s.size := by omega
  have b2 : s.size ≤ 140737488355328 := by omega
  have e1 : strings_Cut.f s eqs = some (s.extract 0 m, s.extract (m + 1) s.size, true) := by
    unfold strings_Cut.f stringslite_Cut.f
    rw [index_tells, h]
    simp only [Option.bind_some]
    rw [weq b1 b2, if_pos (by omega), if_pos (by omega), if_pos (by omega), if_pos (by omega), if_pos (by omega)]
    rfl
  show (strings_Cut.f s eqs).bind _ = _
  rw [e1]
  simp only [Option.bind_some]
  rw [if_pos trivial, name_f]
  simp only [Option.bind_some]
  unfold splitV
  split <;> rfl
theorem split_miss (s : ByteArray) (h : idxE (bytesOf s) = -1) : item_Split.f s = some (⟨#[]⟩, ⟨#[]⟩, false) := by
  have e1 : strings_Cut.f s eqs = some (s, ⟨#[]⟩, false) := by
    unfold strings_Cut.f stringslite_Cut.f
    rw [index_tells, h]
    rfl
  show (strings_Cut.f s eqs).bind _ = _
  rw [e1]
  rfl
theorem ref_hit (s : ByteArray) (hs : s.size ≤ 140737488351232) (m : Nat) (hm : m < s.size) (he : bt s (m : Nat) = 61) (hn : ∀ j, j < m → bt s (j : Nat) ≠ 61) : ∀ (d i : Nat), d + i = m → Ev (fun k => logbookref04_Split.l0 k s i) (splitV s m)
  | 0, i, hd => by
    obtain rfl : i = m := by omega
    have hsz : (s.extract 0 i).size ≤ 140737488351232 := by
      rw [ByteArray.size_extract]
      omega
    refine Ev.step (fun k => logbookref04_Split.l0.eq_2 _ _ _) ?_
    rw [wi (i := i) (n := s.size) (by omega) (by omega)]
    refine Ev.pos (by omega) (Ev.pos (by omega) (Ev.pos he (Ev.pos (by omega) ?_)))
    rw [Int.toNat_natCast, Int.toNat_natCast]
    refine Ev.bind (ref_name _ hsz) ?_
    unfold splitV
    refine Ev.both (fun h => ?_) (fun h => ?_)
    · rw [if_pos h]
      exact Ev.pos (by omega) (Ev.pos (by omega) (Ev.now _))
    · rw [if_neg h]
      exact Ev.now _
  | d + 1, i, hd => by
    refine Ev.step (fun k => logbookref04_Split.l0.eq_2 _ _ _) (Ev.pos (by omega) (Ev.pos (by omega) (Ev.neg (hn i (by omega)) ?_)))
    rw [wi (i := i) (n := s.size) (by omega) (by omega)]
    exact ref_hit s hs m hm he hn d (i + 1) (by omega)
theorem ref_miss (s : ByteArray) (hs : s.size ≤ 140737488351232) (hn : ∀ j, j < s.size → bt s (j : Nat) ≠ 61) : ∀ (d i : Nat), d + i = s.size → Ev (fun k => logbookref04_Split.l0 k s i) (⟨#[]⟩, ⟨#[]⟩, false)
  | 0, i, hd => Ev.step (fun k => logbookref04_Split.l0.eq_2 _ _ _) (Ev.neg (by omega) (Ev.now _))
  | d + 1, i, hd => by
    refine Ev.step (fun k => logbookref04_Split.l0.eq_2 _ _ _) (Ev.pos (by omega) (Ev.pos (by omega) (Ev.neg (hn i (by omega)) ?_)))
    rw [wi (i := i) (n := s.size) (by omega) (by omega)]
    exact ref_miss s hs hn d (i + 1) (by omega)
theorem split_tells (s : ByteArray) (hs : s.size ≤ 140737488351232) : ∃ v, item_Split.f s = some v ∧ Ev (fun k => logbookref04_Split.f k s) v := by
  rcases idxE_cases (bytesOf s) with ⟨h1, h2⟩ | ⟨m, h1, h2, h3, h4⟩
  · refine ⟨_, split_miss s h1, ?_⟩
    exact ref_miss s hs (fun j hj => by rw [bt_get]; exact h2 j (by rw [bytesOf_length]; exact hj)) s.size 0 (by omega)
  · rw [bytesOf_length] at h2
    refine ⟨_, split_hit s hs m h1 h2, ?_⟩
    exact ref_hit s hs m h2 (by rw [bt_get]; exact h3) (fun j hj => by rw [bt_get]; exact h4 j hj) m 0 (by omega)

theorem split_sizes (s : ByteArray) (hs : s.size ≤ 140737488351232) : ∃ v, item_Split.f s = some v ∧ Ev (fun k => logbookref04_Split.f k s) v ∧ v.1.size + v.2.1.size ≤ s.size := by
  rcases idxE_cases (bytesOf s) with ⟨h1, h2⟩ | ⟨m, h1, h2, h3, h4⟩
  · refine ⟨_, split_miss s h1, ?_, Nat.zero_le _⟩
    exact ref_miss s hs (fun j hj => by rw [bt_get]; exact h2 j (by rw [bytesOf_length]; exact hj)) s.size 0 (by omega)
  · rw [bytesOf_length] at h2
    refine ⟨_, split_hit s hs m h1 h2, ref_hit s hs m h2 (by rw [bt_get]; exact h3) (fun j hj => by rw [bt_get]; exact h4 j hj) m 0 (by omega), ?_⟩
    unfold splitV
    split
    · show (s.extract 0 m).size + (s.extract (m + 1) s.size).size ≤ s.size
      rw [ByteArray.size_extract, ByteArray.size_extract]
      omega
    · exact Nat.zero_le _
def sortB (l : List ByteArray) : List ByteArray := ((l.map (·.data.toList)).mergeSort fun x y => decide (x ≤ y)).map fun b => ⟨b.toArray⟩
theorem sortB_len (l : List ByteArray) : (sortB l).length = l.length := by simp [sortB]
theorem split_some (s : ByteArray) (hs : s.size ≤ 140737488351232) : ∃ v, item_Split.f s = some v := by
  rcases idxE_cases (bytesOf s) with ⟨h1, h2⟩ | ⟨m, h1, h2, h3, h4⟩
  · exact ⟨_, split_miss s h1⟩
  · rw [bytesOf_length] at h2
    exact ⟨_, split_hit s hs m h1 h2⟩
def okS (s : ByteArray) : Bool := match item_Split.f s with
  | some v => v.2.2
  | none => false
def sizes : List ByteArray → Nat
  | [] => 0
  | x :: r => x.size + sizes r
def scan : List ByteArray → Option Int
  | [] => none
  | x :: r => if x.size > 1024 then some 22 else if okS x = true then scan r else some 23
def fin (l : List ByteArray) (n : Nat) : Option Int → List ByteArray × Int
  | some c => ([], c)
  | none => if n > 8192 then ([], 22) else (compB (sortB l), 0)
def chk (l : List ByteArray) : List ByteArray × Int := if l.length < 1 then ([], 1) else if l.length > 64 then ([], 22) else fin l (sizes l) (scan l)
theorem wa {n m : Nat} (h : n ≤ 1000000) (h2 : m ≤ 1000000) : wrap64 ((n : Int) + (m : Int)) = ((n + m : Nat) : Int) := by
  rw [w64 (by omega) (by omega)]
  omega
def mk (t : T) : ByteArray := ⟨t.toArray⟩
theorem mk_data (s : ByteArray) : mk s.data.toList = s := by
  cases s
  rfl
theorem data_mk (t : T) : (mk t).data.toList = t := rfl
def dat (l : List ByteArray) : List T := l.map fun b => b.data.toList
theorem dat_mk (c : List T) : dat (c.map mk) = c := by
  unfold dat
  rw [List.map_map]
  conv => rhs; rw [← List.map_id c]
  exact List.map_congr_left fun t _ => rfl
theorem sortB_eq (l : List ByteArray) : sortB l = ((dat l).mergeSort le).map mk := rfl
theorem compB_eq (l : List ByteArray) : compB l = (Lib.compact (dat l)).map mk := rfl
theorem scan_none : ∀ l : List ByteArray, scan l = none ↔ ∀ x ∈ l, x.size ≤ 1024 ∧ okS x = true
  | [] => by simp [scan]
  | x :: r => by
    have ih := scan_none r
    rw [scan]
    by_cases h : x.size > 1024
    · rw [if_pos h]
      constructor
      · intro e
        cases e
      · intro e
        have := (e x (by simp)).1
        omega
    · rw [if_neg h]
      by_cases o : okS x = true
      · rw [if_pos o, ih]
        constructor
        · intro e y hy
          rcases List.mem_cons.1 hy with rfl | hy
          · exact ⟨by omega, o⟩
          · exact e y hy
        · exact fun e y hy => e y (List.mem_cons_of_mem _ hy)
      · rw [if_neg o]
        constructor
        · intro e
          cases e
        · exact fun e => absurd (e x (by simp)).2 o
def sumT : List T → Nat
  | [] => 0
  | x :: r => x.length + sumT r
theorem sizes_dat : ∀ l : List ByteArray, sizes l = sumT (dat l)
  | [] => rfl
  | x :: r => by
    rw [sizes, sizes_dat r]
    show _ = x.data.toList.length + _
    rw [Array.length_toList]
    rfl
theorem sumT_sub {a b : List T} (h : a.Sublist b) : sumT a ≤ sumT b := by
  induction h with
  | slnil => exact Nat.le_refl _
  | cons x _ ih => rw [sumT]; omega
  | cons_cons x _ ih => rw [sumT, sumT]; omega
theorem sumT_perm {a b : List T} (h : a.Perm b) : sumT a = sumT b := by
  induction h with
  | nil => rfl
  | cons x _ ih => rw [sumT, sumT, ih]
  | swap x y l => rw [sumT, sumT, sumT, sumT]; omega
  | trans _ _ h1 h2 => rw [h1, h2]
theorem fin_err (l : List ByteArray) (n : Nat) (o : Option Int) (h : (fin l n o).2 ≠ 0) : (fin l n o).1 = [] := by
  unfold fin at h ⊢
  cases o with
  | some c => rfl
  | none =>
    simp only at h ⊢
    split
    · rfl
    · rename_i g
      rw [if_neg g] at h
      exact absurd rfl h
theorem chk_err (l : List ByteArray) (h : (chk l).2 ≠ 0) : (chk l).1 = [] := by
  unfold chk at h ⊢
  by_cases h1 : l.length < 1
  · rw [if_pos h1]
  · rw [if_neg h1] at h ⊢
    by_cases h2 : l.length > 64
    · rw [if_pos h2]
    · rw [if_neg h2] at h ⊢
      exact fin_err l _ _ h
theorem scan_code : ∀ (l : List ByteArray) (c : Int), scan l = some c → c ≠ 0
  | [], c, h => by cases h
  | x :: r, c, h => by
    rw [scan] at h
    split at h
    · injection h with h; omega
    · split at h
      · exact scan_code r c h
      · injection h with h; omega
theorem chk_again (l : List ByteArray) (h : (chk l).2 = 0) : chk (chk l).1 = ((chk l).1, 0) ∧ (chk l).1.length ≤ 64 := by
  unfold chk at h
  by_cases h1 : l.length < 1
  · rw [if_pos h1] at h
    cases h
  rw [if_neg h1] at h
  by_cases h2 : l.length > 64
  · rw [if_pos h2] at h
    cases h
  rw [if_neg h2] at h
  cases hs : scan l with
  | some c =>
    rw [hs] at h
    exact absurd h (scan_code l c hs)
  | none =>
    rw [hs] at h
    by_cases h3 : sizes l > 8192
    · unfold fin at h
      simp only [if_pos h3] at h
      cases h
    have e : chk l = (compB (sortB l), 0) := by
      unfold chk
      rw [if_neg h1, if_neg h2, hs]
      exact if_neg h3
    rw [e]
    have hd : dat (sortB l) = (dat l).mergeSort le := by rw [sortB_eq, dat_mk]
    have ea : compB (sortB l) = (Lib.compact ((dat l).mergeSort le)).map mk := by rw [compB_eq, hd]
    show chk (compB (sortB l)) = (compB (sortB l), 0) ∧ (compB (sortB l)).length ≤ 64
    rw [ea]
    have hp := List.mergeSort_perm (dat l) le
    have hsub := comp_sub ((dat l).mergeSort le)
    have hr := comp_rises _ (sorted (dat l))
    have hne : Lib.compact ((dat l).mergeSort le) ≠ [] := comp_ne (fun e => by
      have h5 := hp.length_eq
      rw [e] at h5
      unfold dat at h5
      rw [List.length_map, List.length_nil] at h5
      omega)
    have hlen := hsub.length_le
    have hmem : ∀ t ∈ Lib.compact ((dat l).mergeSort le), mk t ∈ l := fun t ht => by
      have h5 : t ∈ dat l := hp.mem_iff.1 (hsub.subset ht)
      obtain ⟨y, hy, rfl⟩ := List.mem_map.1 h5
      rw [mk_data]
      exact hy
    have hsum := sumT_sub hsub
    rw [sumT_perm hp, ← sizes_dat] at hsum
    have h6 := hp.length_eq
    have h7 : (dat l).length = l.length := List.length_map _
    generalize Lib.compact ((dat l).mergeSort le) = c at hr hne hlen hmem hsum ⊢
    have hc : c.length ≠ 0 := fun e => hne (List.eq_nil_of_length_eq_zero e)
    have hw : c.Pairwise fun a b => a ≤ b := hr.imp (fun h => h.1)
    have e1 : compB (sortB (c.map mk)) = c.map mk := by
      rw [compB_eq, sortB_eq, dat_mk, dat_mk, sort_again c hw, comp_again c hr]
    have e2 : scan (c.map mk) = none := (scan_none _).2 (fun x hx => by
      obtain ⟨t, ht, rfl⟩ := List.mem_map.1 hx
      exact (scan_none l).1 hs _ (hmem t ht))
    have e3 : sizes (c.map mk) = sumT c := by rw [sizes_dat, dat_mk]
    refine ⟨?_, by rw [List.length_map]; omega⟩
    unfold chk
    rw [List.length_map, if_neg (by omega), if_neg (by omega), e2, e3]
    show (if sumT c > 8192 then _ else _) = _
    rw [if_neg (by omega), e1]
set_option linter.unusedVariables false
def less (a b : ByteArray) : Bool := Op.bytesLess a.toList b.toList
theorem bl : ∀ (x y : List UInt8), Op.bytesLess x y = decide (x < y)
  | [], [] => rfl
  | _ :: _, [] => by simp [Op.bytesLess]
  | [], _ :: _ => by simp [Op.bytesLess]
  | a :: x, b :: y => by
    rw [Op.bytesLess, bl x y]
    by_cases h : a < b <;> by_cases h' : a = b <;> simp [h, h', List.cons_lt_cons_iff]
theorem less_iff : ∀ x y : List UInt8, Op.bytesLess x y = true ↔ x ≤ y ∧ x ≠ y := fun x y => by
  rw [bl, decide_eq_true_iff]
  constructor
  · intro h
    exact ⟨List.le_of_lt h, fun e => List.lt_irrefl x (by rw [e] at h ⊢; exact h)⟩
  · rintro ⟨h1, h2⟩
    exact Classical.byContradiction fun h => h2 (List.le_antisymm h1 (List.not_lt.1 h))
def ins (s : ByteArray) : List ByteArray → List ByteArray
  | [] => [s]
  | x :: r => if less s x = true then s :: x :: r else x :: ins s r
theorem mem_ins (s y : ByteArray) : ∀ l : List ByteArray, y ∈ ins s l ↔ y = s ∨ y ∈ l
  | [] => by simp [ins]
  | x :: r => by
    rw [ins]
    split
    · simp
    · rw [List.mem_cons, mem_ins s y r, List.mem_cons]
      constructor
      · rintro (h | h | h)
        · exact .inr (.inl h)
        · exact .inl h
        · exact .inr (.inr h)
      · rintro (h | h | h)
        · exact .inr (.inl h)
        · exact .inl h
        · exact .inr (.inr h)
theorem len_ins (s : ByteArray) : ∀ l : List ByteArray, (ins s l).length = l.length + 1
  | [] => rfl
  | x :: r => by
    rw [ins]
    split
    · rfl
    · rw [List.length_cons, len_ins s r, List.length_cons]
def Rises (l : List ByteArray) : Prop := l.Pairwise fun a b => a.toList ≤ b.toList ∧ a ≠ b
theorem ins_rises (s : ByteArray) : ∀ l : List ByteArray, Rises l → s ∉ l → Rises (ins s l)
  | [], _, _ => by simp [ins, Rises]
  | x :: r, h, hs => by
    obtain ⟨h1, h2⟩ := List.pairwise_cons.1 h
    rw [ins]
    by_cases g : less s x = true
    · rw [if_pos g]
      have g1 := (less_iff _ _).1 g
      refine List.pairwise_cons.2 ⟨fun y hy => ?_, h⟩
      rcases List.mem_cons.1 hy with rfl | hy
      · exact ⟨g1.1, fun e => g1.2 (by rw [e])⟩
      · exact ⟨List.le_trans g1.1 (h1 y hy).1, fun e => hs (by rw [e]; exact List.mem_cons_of_mem _ hy)⟩
    · rw [if_neg g]
      refine List.pairwise_cons.2 ⟨fun y hy => ?_, ins_rises s r h2 (fun e => hs (List.mem_cons_of_mem _ e))⟩
      rcases (mem_ins s y r).1 hy with rfl | hy
      · have hne : x ≠ y := fun e => hs (by rw [e]; simp)
        refine ⟨?_, hne⟩
        rcases List.le_total x.toList y.toList with k | k
        · exact k
        · exact absurd ((less_iff _ _).2 ⟨k, fun e => hne (toList_inj e).symm⟩) g
      · exact h1 y hy
open Classical in
theorem put_go (l : List ByteArray) (s : ByteArray) (hl : l.length ≤ 100) : ∀ (d i : Nat) (out : List ByteArray) (done : Bool), d + i = l.length → out.length ≤ 2 * i →
    Ev (fun k => logbookref04_Put.l0 k l s out done i) (if s ∈ l.drop i then l else out ++ (if done = true then l.drop i else ins s (l.drop i)))
  | 0, i, out, done, hd, ho => by
    have e : l.drop i = [] := List.drop_of_length_le (by omega)
    rw [e, if_neg (by simp)]
    refine Ev.step (fun k => logbookref04_Put.l0.eq_2 _ _ _ _ _ _) (Ev.neg (by omega) (Ev.both (fun h => ?_) (fun h => ?_)))
    · rw [if_pos h, List.append_nil]
      exact Ev.now _
    · rw [if_neg h]
      exact Ev.pos (by omega) (Ev.now _)
  | d + 1, i, out, done, hd, ho => by
    have hi : i < l.length := by omega
    have hg : rdOf ByteArray.empty l (i : Int) = l[i] := by
      unfold rdOf
      rw [Int.toNat_natCast, List.getD_eq_getElem?_getD, List.getElem?_eq_getElem hi]
      rfl
    have hdr : l.drop i = l[i] :: l.drop (i + 1) := List.drop_eq_getElem_cons hi
    refine Ev.step (fun k => logbookref04_Put.l0.eq_2 _ _ _ _ _ _) ?_
    rw [hg, wi (i := i) (n := l.length) (by omega) (by omega), hdr]
    generalize l[i] = x
    refine Ev.pos (by omega) (Ev.pos (by omega) ?_)
    by_cases hx : x.toList = s.toList
    · have e : x = s := toList_inj hx
      rw [if_pos (by rw [e]; simp)]
      exact Ev.pos hx (Ev.now _)
    · have hne : s ≠ x := fun e => hx (by rw [e])
      have hm : (s ∈ x :: l.drop (i + 1)) = (s ∈ l.drop (i + 1)) := by
        rw [List.mem_cons]
        exact propext ⟨fun h => h.resolve_left hne, .inr⟩
      simp only [hm]
      refine Ev.neg hx (Ev.both (fun h => ?_) (fun h => ?_))
      · refine Ev.both (fun hdn => Ev.pos (by omega) ?_) (fun hdn => Ev.pos (by omega) (Ev.bindc rfl (Ev.pos (by rw [List.length_append]; simp; omega) ?_)))
        · subst hdn
          refine Ev.eq (put_go l s hl d (i + 1) (out ++ [x]) true (by omega) (by simp; omega)) ?_
          simp
        · refine Ev.eq (put_go l s hl d (i + 1) ((out ++ [s]) ++ [x]) true (by omega) ?_) ?_
          · simp
            omega
          · have hl2 : less s x = true := h
            rw [if_neg hdn, ins, if_pos hl2]
            simp
      · refine Ev.pos (by omega) (Ev.eq (put_go l s hl d (i + 1) (out ++ [x]) done (by omega) (by simp; omega)) ?_)
        have hl2 : ¬ less s x = true := h
        rw [ins, if_neg hl2]
        cases done <;> simp
open Classical in
noncomputable def putS (l : List ByteArray) (s : ByteArray) : List ByteArray := if s ∈ l then l else ins s l
open Classical in
theorem put_tells (l : List ByteArray) (s : ByteArray) (hl : l.length ≤ 100) : Ev (fun k => logbookref04_Put.f k l s) (putS l s) := by
  have := put_go l s hl l.length 0 [] false (by omega) (by simp)
  refine Ev.eq this ?_
  unfold putS
  simp
theorem unique : ∀ (a b : List ByteArray), Rises a → Rises b → (∀ x, x ∈ a ↔ x ∈ b) → a = b
  | [], [], _, _, _ => rfl
  | [], y :: b, _, _, h => by
    have := (h y).2 (by simp)
    simp at this
  | x :: a, [], _, _, h => by
    have := (h x).1 (by simp)
    simp at this
  | x :: a, y :: b, ha, hb, h => by
    obtain ⟨a1, a2⟩ := List.pairwise_cons.1 ha
    obtain ⟨b1, b2⟩ := List.pairwise_cons.1 hb
    have hxy : x = y := by
      rcases List.mem_cons.1 ((h x).1 (by simp)) with e | e
      · exact e
      · rcases List.mem_cons.1 ((h y).2 (by simp)) with k | k
        · exact k.symm
        · exact toList_inj (List.le_antisymm (a1 y k).1 (b1 x e).1)
    subst hxy
    congr 1
    refine unique a b a2 b2 (fun z => ⟨fun hz => ?_, fun hz => ?_⟩)
    · rcases List.mem_cons.1 ((h z).1 (List.mem_cons_of_mem _ hz)) with e | e
      · exact absurd e.symm (a1 z hz).2
      · exact e
    · rcases List.mem_cons.1 ((h z).2 (List.mem_cons_of_mem _ hz)) with e | e
      · exact absurd e.symm (b1 z hz).2
      · exact e
theorem comp_mem (zs : List T) (h : zs.Pairwise fun a b => a ≤ b) : ∀ m, m ≤ zs.length → ∀ j, j < m → zs.toArray[j]! ∈ Lib.compactUpTo zs.toArray m
  | 0, _, j, hj => by omega
  | m + 1, hm, j, hj => by
    rw [Lib.compactUpTo_succ]
    rcases Nat.lt_or_ge j m with h1 | h1
    · exact List.mem_append_left _ (comp_mem zs h m (by omega) j h1)
    · obtain rfl : j = m := by omega
      cases hk : Lib.keeps zs.toArray j with
      | true => simp
      | false =>
        have hk2 : ¬ (j = 0 ∨ zs.toArray[j]! ≠ zs.toArray[j - 1]!) := of_decide_eq_false hk
        have h0 : j ≠ 0 := fun e => hk2 (.inl e)
        have e : zs.toArray[j]! = zs.toArray[j - 1]! := Classical.byContradiction fun e => hk2 (.inr e)
        rw [e]
        exact List.mem_append_left _ (comp_mem zs h j (by omega) (j - 1) (by omega))
theorem result_mem (l : List ByteArray) (x : ByteArray) : x ∈ compB (sortB l) ↔ x ∈ l := by
  have hd : dat (sortB l) = (dat l).mergeSort le := by rw [sortB_eq, dat_mk]
  have ea : compB (sortB l) = (Lib.compact ((dat l).mergeSort le)).map mk := by rw [compB_eq, hd]
  have hp := List.mergeSort_perm (dat l) le
  rw [ea]
  constructor
  · intro h
    obtain ⟨t, ht, rfl⟩ := List.mem_map.1 h
    obtain ⟨y, hy, rfl⟩ := List.mem_map.1 (hp.mem_iff.1 ((comp_sub _).subset ht))
    rw [mk_data]
    exact hy
  · intro h
    have h1 : x.data.toList ∈ (dat l).mergeSort le := hp.mem_iff.2 (List.mem_map.2 ⟨x, h, rfl⟩)
    obtain ⟨j, hj, e⟩ := List.mem_iff_getElem.1 h1
    have h2 := comp_mem _ (sorted (dat l)) _ (Nat.le_refl _) j hj
    rw [getE _ j hj, e] at h2
    exact List.mem_map.2 ⟨_, h2, mk_data x⟩
theorem result_rises (l : List ByteArray) : Rises (compB (sortB l)) := by
  have hd : dat (sortB l) = (dat l).mergeSort le := by rw [sortB_eq, dat_mk]
  have ea : compB (sortB l) = (Lib.compact ((dat l).mergeSort le)).map mk := by rw [compB_eq, hd]
  rw [ea]
  unfold Rises
  rw [List.pairwise_map]
  refine (comp_rises _ (sorted (dat l))).imp (fun {a b} h => ⟨?_, fun e => h.2 ?_⟩)
  · have e1 : (mk a).toList = a := by rw [ByteArray.toList_eq]; rfl
    have e2 : (mk b).toList = b := by rw [ByteArray.toList_eq]; rfl
    rw [e1, e2]
    exact h.1
  · have := congrArg (fun s : ByteArray => s.data.toList) e
    exact this
open Classical in
theorem refc_go (l : List ByteArray) (hl : l.length ≤ 64) : ∀ (d i n : Nat) (acc : List ByteArray), d + i = l.length → n ≤ 1024 * i → acc.length ≤ i → Rises acc → (∀ x, x ∈ acc ↔ x ∈ l.take i) →
    Ev (fun k => logbookref04_Check.l0 k l n acc i) (fin l (n + sizes (l.drop i)) (scan (l.drop i)))
  | 0, i, n, acc, hd, hn, ha, hr, hm => by
    rw [List.drop_of_length_le (by omega)]
    have e0 : fin l (n + sizes []) (scan []) = if n > 8192 then ([], 22) else (compB (sortB l), 0) := rfl
    rw [e0]
    have e1 : acc = compB (sortB l) := unique _ _ hr (result_rises l) (fun x => by
      rw [hm, result_mem, List.take_of_length_le (by omega)])
    refine Ev.step (fun k => logbookref04_Check.l0.eq_2 _ _ _ _ _) (Ev.neg (by omega) ?_)
    by_cases h : n > 8192
    · rw [if_pos h]
      exact Ev.pos (by omega) (Ev.now _)
    · rw [if_neg h, ← e1]
      exact Ev.neg (by omega) (Ev.now _)
  | d + 1, i, n, acc, hd, hn, ha, hr, hm => by
    have hi : i < l.length := by omega
    have hg : rdOf ByteArray.empty l (i : Int) = l[i] := by
      unfold rdOf
      rw [Int.toNat_natCast, List.getD_eq_getElem?_getD, List.getElem?_eq_getElem hi]
      rfl
    have hdr : l.drop i = l[i] :: l.drop (i + 1) := List.drop_eq_getElem_cons hi
    have htk : l.take (i + 1) = l.take i ++ [l[i]] := List.take_succ_eq_append_getElem hi
    rw [hdr]
    refine Ev.step (fun k => logbookref04_Check.l0.eq_2 _ _ _ _ _) ?_
    rw [hg]
    generalize l[i] = x at htk
    refine Ev.pos (by omega) (Ev.pos (by omega) ?_)
    by_cases hx : x.size > 1024
    · refine Ev.pos (by omega) (Ev.eq (Ev.now _) ?_)
      rw [scan, if_pos hx]
      rfl
    · obtain ⟨v, hv, hrv⟩ := split_tells x (by omega)
      have ho : okS x = v.2.2 := by
        unfold okS
        rw [hv]
      refine Ev.neg (by omega) (Ev.bind hrv (Ev.both (fun h => ?_) (fun h => Ev.eq (Ev.now _) ?_)))
      · rw [wa (n := n) (m := x.size) (by omega) (by omega), wi (i := i) (n := l.length) (by omega) (by omega)]
        refine Ev.bind (put_tells acc x (by omega)) ?_
        have hlen : (putS acc x).length ≤ i + 1 := by
          unfold putS
          split
          · omega
          · rw [len_ins]
            omega
        have hr2 : Rises (putS acc x) := by
          unfold putS
          split
          · exact hr
          · rename_i g
            exact ins_rises x acc hr g
        have hm2 : ∀ y, y ∈ putS acc x ↔ y ∈ l.take (i + 1) := fun y => by
          rw [htk, List.mem_append, ← hm, List.mem_singleton]
          unfold putS
          split
          · rename_i g
            constructor
            · exact .inl
            · rintro (h | rfl)
              · exact h
              · exact g
          · rw [mem_ins]
            constructor
            · rintro (h | h)
              · exact .inr h
              · exact .inl h
            · rintro (h | h)
              · exact .inr h
              · exact .inl h
        have ih := refc_go l hl d (i + 1) (n + x.size) (putS acc x) (by omega) (by omega) hlen hr2 hm2
        rw [scan, if_neg hx, ho, if_pos h, sizes, ← Nat.add_assoc]
        exact ih
      · rw [scan, if_neg hx, ho, if_neg h]
        rfl
theorem refc_all (l : List ByteArray) : Ev (fun k => logbookref04_Check.f k l) (chk l) := by
  unfold chk
  by_cases h1 : l.length < 1
  · rw [if_pos h1]
    exact Ev.pos (by omega) (Ev.now _)
  rw [if_neg h1]
  by_cases h2 : l.length > 64
  · rw [if_pos h2]
    exact Ev.neg (by omega) (Ev.pos (by omega) (Ev.now _))
  rw [if_neg h2]
  have := refc_go l (by omega) l.length 0 0 [] (by omega) (by omega) (by simp) (by simp [Rises]) (fun x => by simp)
  rw [List.drop_zero, Nat.zero_add] at this
  exact Ev.neg (by omega) (Ev.neg (by omega) this)
theorem chk_len (l : List ByteArray) : (chk l).1.length ≤ 64 := by
  by_cases e : (chk l).2 = 0
  · exact (chk_again l e).2
  · rw [chk_err l e]
    simp

open Classical in
theorem putS_len {acc : List ByteArray} {x : ByteArray} {i : Nat} (ha : acc.length ≤ i) : (putS acc x).length ≤ i + 1 := by
  unfold putS
  split
  · omega
  · rw [len_ins]
    omega
open Classical in
theorem putS_rises {acc : List ByteArray} {x : ByteArray} (hr : Rises acc) : Rises (putS acc x) := by
  unfold putS
  split
  · exact hr
  · rename_i g
    exact ins_rises x acc hr g
open Classical in
theorem putS_mem {acc : List ByteArray} {x y : ByteArray} : y ∈ putS acc x ↔ y ∈ acc ∨ y = x := by
  unfold putS
  split
  · rename_i g
    constructor
    · exact .inl
    · rintro (h | rfl)
      · exact h
      · exact g
  · rw [mem_ins]
    constructor
    · rintro (h | h)
      · exact .inr h
      · exact .inl h
    · rintro (h | h)
      · exact .inr h
      · exact .inl h
theorem chk_form (l : List ByteArray) (h : (chk l).2 = 0) : (chk l).1 = compB (sortB l) ∧ scan l = none := by
  unfold chk at h ⊢
  by_cases h1 : l.length < 1
  · rw [if_pos h1] at h
    cases h
  rw [if_neg h1] at h ⊢
  by_cases h2 : l.length > 64
  · rw [if_pos h2] at h
    cases h
  rw [if_neg h2] at h ⊢
  cases hs : scan l with
  | some c =>
    rw [hs] at h
    exact absurd h (scan_code l c hs)
  | none =>
    rw [hs] at h
    by_cases h3 : sizes l > 8192
    · unfold fin at h
      simp only [if_pos h3] at h
      cases h
    · unfold fin
      simp only [if_neg h3]
      exact ⟨trivial, trivial⟩
theorem chk_ok (l : List ByteArray) (h : (chk l).2 = 0) : Rises (chk l).1 ∧ (chk l).1.length ≤ 64 ∧ ∀ x ∈ (chk l).1, x.size ≤ 1024 := by
  obtain ⟨h1, h2⟩ := chk_form l h
  refine ⟨by rw [h1]; exact result_rises l, chk_len l, fun x hx => ?_⟩
  rw [h1, result_mem] at hx
  exact ((scan_none l).1 h2 x hx).1
theorem rd_at (l : List ByteArray) (i : Nat) (hi : i < l.length) : rdOf ByteArray.empty l (i : Int) = l[i] := by
  unfold rdOf
  rw [Int.toNat_natCast, List.getD_eq_getElem?_getD, List.getElem?_eq_getElem hi]
  rfl
theorem less_val (a b : ByteArray) : cmp_Less_string.f a b = some (less a b) := by
  have e : ∀ x : ByteArray, cmp_isNaN_string.f x = some false := fun x => by
    unfold cmp_isNaN_string.f
    simp
  unfold cmp_Less_string.f
  rw [e a]
  rfl
theorem mid (lo hi n : Nat) (h : lo ≤ n) (h2 : hi ≤ n) (hn : n ≤ 1000) : wrap64 ((IntKind.u64.wrap (wrap64 ((lo : Int) + (hi : Int)))) / 2) = (((lo + hi) / 2 : Nat) : Int) := by
  rw [wa (n := lo) (m := hi) (by omega) (by omega), wu64 (by omega) (by omega), w64 (by omega) (by omega)]
  omega
theorem search_go (l : List ByteArray) (s : ByteArray) (hl : l.length ≤ 64) (hr : Rises l) : ∀ (d lo hi : Nat), hi - lo ≤ d → lo ≤ hi → hi ≤ l.length →
    (∀ j (h : j < l.length), j < lo → less l[j] s = true) → (∀ j (h : j < l.length), hi ≤ j → ¬ less l[j] s = true) →
    ∃ p b, Ev (fun k => slices_BinarySearch_string_string.l0 k l s (l.length : Nat) lo hi) (p, b) ∧ (b = true ↔ s ∈ l)
  | d, lo, hi, hd, h1, h2, ha, hb => by
    by_cases hlt : lo < hi
    · match d, hd with
      | 0, hd => omega
      | d + 1, hd =>
        have hm : (lo + hi) / 2 < l.length := by omega
        have hg := rd_at l ((lo + hi) / 2) hm
        have hmid := mid lo hi l.length (by omega) h2 (by omega)
        have hw := wi (i := (lo + hi) / 2) (n := l.length) (by omega) (by omega)
        by_cases g : less l[(lo + hi) / 2] s = true
        · obtain ⟨p, b, e1, e2⟩ := search_go l s hl hr d ((lo + hi) / 2 + 1) hi (by omega) (by omega) h2 (fun j h hj => by
            rcases Nat.lt_or_ge j ((lo + hi) / 2) with k | k
            · have q := (List.pairwise_iff_getElem.1 hr j ((lo + hi) / 2) h hm k)
              have g1 := (less_iff _ _).1 g
              refine (less_iff _ _).2 ⟨List.le_trans q.1 g1.1, fun e => ?_⟩
              exact g1.2 (List.le_antisymm g1.1 (by rw [← e]; exact q.1))
            · obtain rfl : j = (lo + hi) / 2 := by omega
              exact g) hb
          refine ⟨p, b, Ev.step (fun k => slices_BinarySearch_string_string.l0.eq_2 _ _ _ _ _ _) ?_, e2⟩
          rw [hmid, hg, hw]
          exact Ev.pos (by omega) (Ev.pos (by omega) (Ev.pos (by omega) (Ev.bindc (less_val _ _) (Ev.pos g e1))))
        · obtain ⟨p, b, e1, e2⟩ := search_go l s hl hr d lo ((lo + hi) / 2) (by omega) (by omega) (by omega) ha (fun j h hj => by
            intro k
            rcases Nat.lt_or_ge ((lo + hi) / 2) j with m | m
            · have q := (List.pairwise_iff_getElem.1 hr ((lo + hi) / 2) j hm h m)
              have g1 := (less_iff _ _).1 k
              refine g ((less_iff _ _).2 ⟨List.le_trans q.1 g1.1, fun e => ?_⟩)
              exact g1.2 (List.le_antisymm g1.1 (by rw [← e]; exact q.1))
            · obtain rfl : j = (lo + hi) / 2 := by omega
              exact g k)
          refine ⟨p, b, Ev.step (fun k => slices_BinarySearch_string_string.l0.eq_2 _ _ _ _ _ _) ?_, e2⟩
          rw [hmid, hg]
          exact Ev.pos (by omega) (Ev.pos (by omega) (Ev.pos (by omega) (Ev.bindc (less_val _ _) (Ev.neg g e1))))
    · obtain rfl : lo = hi := by omega
      by_cases hin : lo < l.length
      · have hg := rd_at l lo hin
        by_cases q : l[lo].toList = s.toList
        · refine ⟨(lo : Int), true, Ev.step (fun k => slices_BinarySearch_string_string.l0.eq_2 _ _ _ _ _ _) ?_, ⟨fun _ => by rw [← toList_inj q]; exact List.getElem_mem hin, fun _ => rfl⟩⟩
          rw [hg]
          exact Ev.neg (by omega) (Ev.pos (by omega) (Ev.pos (by omega) (Ev.pos (by omega) (Ev.pos q (Ev.now _)))))
        · have hn : slices_isNaN_string.f l[lo] = some false := by
            unfold slices_isNaN_string.f
            simp
          refine ⟨(lo : Int), false, Ev.step (fun k => slices_BinarySearch_string_string.l0.eq_2 _ _ _ _ _ _) ?_, ⟨fun e => absurd e (by simp), fun hs => ?_⟩⟩
          · rw [hg]
            exact Ev.neg (by omega) (Ev.pos (by omega) (Ev.pos (by omega) (Ev.pos (by omega) (Ev.neg q (Ev.bindc hn (Ev.neg (by simp) (Ev.now _)))))))
          · obtain ⟨j, hj, rfl⟩ := List.mem_iff_getElem.1 hs
            rcases Nat.lt_or_ge j lo with m | m
            · exact absurd rfl ((less_iff _ _).1 (ha j hj m)).2
            · rcases Nat.lt_or_ge lo j with m2 | m2
              · have z := List.pairwise_iff_getElem.1 hr lo j hin hj m2
                exact absurd ((less_iff _ _).2 ⟨z.1, fun e => z.2 (toList_inj e)⟩) (hb lo hin (Nat.le_refl _))
              · obtain rfl : j = lo := by omega
                exact absurd rfl q
      · refine ⟨(lo : Int), false, Ev.step (fun k => slices_BinarySearch_string_string.l0.eq_2 _ _ _ _ _ _) (Ev.neg (by omega) (Ev.neg (by omega) (Ev.now _))), ⟨fun e => absurd e (by simp), fun hs => ?_⟩⟩
        obtain ⟨j, hj, rfl⟩ := List.mem_iff_getElem.1 hs
        exact absurd rfl ((less_iff _ _).1 (ha j hj (by omega))).2
theorem refh_go (l : List ByteArray) (s : ByteArray) (hl : l.length ≤ 64) : ∀ (d i : Nat), d + i = l.length → ∃ b, Ev (fun k => logbookref04_Has.l0 k l s i) b ∧ (b = true ↔ s ∈ l.drop i)
  | 0, i, hd => ⟨false, Ev.step (fun k => logbookref04_Has.l0.eq_2 _ _ _ _) (Ev.neg (by omega) (Ev.now _)), by rw [List.drop_of_length_le (by omega)]; simp⟩
  | d + 1, i, hd => by
    have hi : i < l.length := by omega
    have hdr : l.drop i = l[i] :: l.drop (i + 1) := List.drop_eq_getElem_cons hi
    have hg := rd_at l i hi
    by_cases q : l[i].toList = s.toList
    · refine ⟨true, Ev.step (fun k => logbookref04_Has.l0.eq_2 _ _ _ _) ?_, ⟨fun _ => by rw [hdr, toList_inj q]; simp, fun _ => rfl⟩⟩
      rw [hg]
      exact Ev.pos (by omega) (Ev.pos (by omega) (Ev.pos q (Ev.now _)))
    · obtain ⟨b, e1, e2⟩ := refh_go l s hl d (i + 1) (by omega)
      refine ⟨b, Ev.step (fun k => logbookref04_Has.l0.eq_2 _ _ _ _) ?_, ?_⟩
      · rw [hg, wi (i := i) (n := l.length) (by omega) (by omega)]
        exact Ev.pos (by omega) (Ev.pos (by omega) (Ev.neg q e1))
      · rw [e2, hdr, List.mem_cons]
        exact ⟨.inr, fun h => h.resolve_left (fun e => q (by rw [e]))⟩
theorem fld (x : ByteArray) (hx : x.size ≤ 140737488351232) : item_Field.f x = some (fieldV x) ∧ Ev (fun k => logbookref04_Field.f k x) (fieldV x) := by
  obtain ⟨v, hv, hr, _⟩ := split_sizes x hx
  have e1 : item_Field.f x = some v.1 := by
    unfold item_Field.f
    rw [hv]
    rfl
  have e : fieldV x = v.1 := by
    unfold fieldV
    rw [e1]
    rfl
  rw [e]
  exact ⟨e1, Ev.bind hr (Ev.now _)⟩
def RF (l : List ByteArray) : Prop := l.Pairwise ltF
theorem uniqueF : ∀ a b : List ByteArray, RF a → RF b → (∀ x, x ∈ a ↔ x ∈ b) → a = b
  | [], [], _, _, _ => rfl
  | [], y :: b, _, _, h => absurd ((h y).2 (by simp)) (by simp)
  | x :: a, [], _, _, h => absurd ((h x).1 (by simp)) (by simp)
  | x :: a, y :: b, ha, hb, h => by
    obtain ⟨a1, a2⟩ := List.pairwise_cons.1 ha
    obtain ⟨b1, b2⟩ := List.pairwise_cons.1 hb
    have e : x = y := by
      rcases List.mem_cons.1 ((h x).1 (by simp)) with e | h1
      · exact e
      · rcases List.mem_cons.1 ((h y).2 (by simp)) with e | h2
        · exact e.symm
        · exact absurd (ltF_trans (a1 y h2) (b1 x h1)) (ltF_irrefl x)
    subst e
    congr 1
    refine uniqueF a b a2 b2 (fun z => ⟨fun hz => ?_, fun hz => ?_⟩)
    · rcases List.mem_cons.1 ((h z).1 (List.mem_cons_of_mem _ hz)) with e | h1
      · rw [e] at hz
        exact absurd (a1 x hz) (ltF_irrefl x)
      · exact h1
    · rcases List.mem_cons.1 ((h z).2 (List.mem_cons_of_mem _ hz)) with e | h1
      · rw [e] at hz
        exact absurd (b1 x hz) (ltF_irrefl x)
      · exact h1
def mkb (t : T) : ByteArray := ⟨t.toArray⟩
theorem mkb_data (s : ByteArray) : mkb s.data.toList = s := by
  unfold mkb
  cases s
  simp
theorem comp_mem2 (zs : List T) : ∀ m, m ≤ zs.length → ∀ j, j < m → zs.toArray[j]! ∈ Lib.compactUpTo zs.toArray m
  | 0, _, j, hj => by omega
  | m + 1, hm, j, hj => by
    rw [Lib.compactUpTo_succ]
    rcases Nat.lt_or_ge j m with h1 | h1
    · exact List.mem_append_left _ (comp_mem2 zs m (by omega) j h1)
    · obtain rfl : j = m := by omega
      cases hk : Lib.keeps zs.toArray j with
      | true => simp
      | false =>
        have hk2 : ¬ (j = 0 ∨ zs.toArray[j]! ≠ zs.toArray[j - 1]!) := of_decide_eq_false hk
        have h0 : j ≠ 0 := fun e => hk2 (.inl e)
        have e : zs.toArray[j]! = zs.toArray[j - 1]! := Classical.byContradiction fun e => hk2 (.inr e)
        rw [e]
        exact List.mem_append_left _ (comp_mem2 zs j (by omega) (j - 1) (by omega))
theorem compact_mem (zs : List T) (t : T) : t ∈ Lib.compact zs ↔ t ∈ zs := by
  constructor
  · exact fun h => (comp_sub zs).subset h
  · intro h
    obtain ⟨j, hj, e⟩ := List.mem_iff_getElem.1 h
    have h2 := comp_mem2 zs _ (Nat.le_refl _) j hj
    rw [getE _ j hj, e] at h2
    exact h2
def rT (a b : T) : Prop := ¬ ltF (mkb b) (mkb a)
theorem rT_trans {a b c : T} (h : rT a b) (k : rT b c) : rT a c := ltF_ntrans k h
theorem rT_refl (a : T) : rT a a := ltF_irrefl _
theorem rT_anti {a b : T} (h : rT a b) (k : rT b a) : a = b := by
  have := ltF_total k h
  have e := congrArg (fun s : ByteArray => s.data.toList) this
  exact e
theorem comp_strictR (zs : List T) (h : zs.Pairwise rT) : ∀ m, m ≤ zs.length → (Lib.compactUpTo zs.toArray m).Pairwise (fun a b => rT a b ∧ a ≠ b) ∧ ∀ x ∈ Lib.compactUpTo zs.toArray m, 0 < m ∧ rT x zs.toArray[m - 1]!
  | 0, _ => ⟨by simp [Lib.compactUpTo], fun x hx => by simp [Lib.compactUpTo] at hx⟩
  | m + 1, hm => by
    obtain ⟨h1, h2⟩ := comp_strictR zs h m (by omega)
    have hstep : 0 < m → rT zs.toArray[m - 1]! zs.toArray[m]! := fun h0 => by
      rw [getE zs (m - 1) (by omega), getE zs m (by omega)]
      exact List.pairwise_iff_getElem.1 h (m - 1) m (by omega) (by omega) (by omega)
    rw [Lib.compactUpTo_succ]
    have ht : m + 1 - 1 = m := by omega
    rw [ht]
    cases hk : Lib.keeps zs.toArray m with
    | false =>
      simp only [Bool.false_eq_true, if_false, List.append_nil]
      exact ⟨h1, fun x hx => ⟨by omega, rT_trans (h2 x hx).2 (hstep (h2 x hx).1)⟩⟩
    | true =>
      simp only [if_true]
      refine ⟨List.pairwise_append.2 ⟨h1, by simp, fun a ha b hb => ?_⟩, fun x hx => ?_⟩
      · rw [List.mem_singleton.1 hb]
        obtain ⟨h0, h3⟩ := h2 a ha
        refine ⟨rT_trans h3 (hstep h0), fun e => ?_⟩
        have hne : zs.toArray[m]! ≠ zs.toArray[m - 1]! := by
          have := of_decide_eq_true hk
          rcases this with h' | h'
          · omega
          · exact h'
        apply hne
        have h4 : rT zs.toArray[m]! zs.toArray[m - 1]! := by rw [← e]; exact h3
        exact rT_anti h4 (hstep h0)
      · rcases List.mem_append.1 hx with hx | hx
        · exact ⟨by omega, rT_trans (h2 x hx).2 (hstep (h2 x hx).1)⟩
        · rw [List.mem_singleton.1 hx]
          exact ⟨by omega, rT_refl _⟩
theorem srt_mem (l : List ByteArray) (hF : ∀ x ∈ l, (item_Field.f x).isSome = true) (x : ByteArray) : x ∈ srtF l ↔ x ∈ l := by
  unfold srtF
  have hp := (List.mergeSort_perm (liftF l) fun x y => !(Go.Proofs.ltOf cmpT) y x).map (fun x : FTx => x.1)
  rw [hp.mem_iff, liftF_val l hF]
theorem srt_rises (l : List ByteArray) : (srtF l).Pairwise fun a b => ¬ ltF b a := by
  unfold srtF
  rw [List.pairwise_map]
  have h := List.pairwise_mergeSort (le := fun x y : FTx => !(Go.Proofs.ltOf cmpT) y x) (fun a b c h k => by
    simp only [Bool.not_eq_true'] at h k ⊢
    exact swoT.ntrans c b a k h) (fun a b => by
    cases h1 : Go.Proofs.ltOf cmpT b a with
    | false => rfl
    | true =>
      have : Go.Proofs.ltOf cmpT a b = false := (ltOf_no a b).2 (fun e => ltF_irrefl _ (ltF_trans e ((ltOf_iff b a).1 h1)))
      rw [this]
      rfl) (liftF l)
  refine h.imp (fun {a b} h => ?_)
  simp only [Bool.not_eq_true'] at h
  exact (ltOf_no b a).1 h
theorem compB_form (l : List ByteArray) : compB l = (Lib.compact (l.map (·.data.toList))).map mkb := rfl
theorem prog_mem (l : List ByteArray) (hF : ∀ x ∈ l, (item_Field.f x).isSome = true) (x : ByteArray) : x ∈ compB (srtF l) ↔ x ∈ l := by
  rw [compB_form, ← srt_mem l hF]
  constructor
  · intro h
    obtain ⟨t, ht, rfl⟩ := List.mem_map.1 h
    obtain ⟨y, hy, rfl⟩ := List.mem_map.1 ((compact_mem _ _).1 ht)
    rw [mkb_data]
    exact hy
  · intro h
    exact List.mem_map.2 ⟨x.data.toList, (compact_mem _ _).2 (List.mem_map.2 ⟨x, h, rfl⟩), mkb_data x⟩
theorem prog_rises (l : List ByteArray) : RF (compB (srtF l)) := by
  rw [compB_form]
  unfold RF
  rw [List.pairwise_map]
  have hz : ((srtF l).map (·.data.toList)).Pairwise rT := by
    rw [List.pairwise_map]
    refine (srt_rises l).imp (fun {a b} h => ?_)
    unfold rT
    rw [mkb_data, mkb_data]
    exact h
  refine (comp_strictR _ hz _ (Nat.le_refl _)).1.imp (fun {a b} h => ?_)
  refine Classical.byContradiction fun k => h.2 ?_
  exact rT_anti h.1 k
theorem lt_rises {a b : ByteArray} (h : a.toList ≤ b.toList ∧ a ≠ b) : a.data.toList < b.data.toList := by
  rw [ByteArray.toList_eq, ByteArray.toList_eq] at h
  refine Classical.byContradiction fun k => h.2 ?_
  have := List.le_antisymm h.1 (List.not_lt.1 k)
  cases a
  cases b
  exact congrArg ByteArray.mk (Array.toList_inj.1 this)
theorem rdb (l : List ByteArray) (i : Nat) (hi : i < l.length) : rdOf ByteArray.empty l (i : Int) = l[i] := by
  unfold rdOf
  rw [Int.toNat_natCast, List.getD_eq_getElem?_getD, List.getElem?_eq_getElem hi]
  rfl

/-! ### the chapter's example -/
instance (a b : ByteArray) : Decidable (ltF a b) := by unfold ltF; infer_instance
theorem sorted_is {l : List ByteArray} (hF : ∀ x ∈ l, (item_Field.f x).isSome = true) (hl : l.length ≤ 1000000) (hr : RF l) : item_Sorted.f l = some l := by
  unfold item_Sorted.f
  rw [if_pos ⟨by omega, hF⟩, uniqueF _ l (prog_rises l) hr (fun x => prog_mem l hF x)]
theorem fa1 : item_Field.f a1S = some ⟨#[65]⟩ := by decide +kernel
theorem fa2 : item_Field.f a2S = some ⟨#[65]⟩ := by decide +kernel
theorem fb1 : item_Field.f b1S = some ⟨#[66]⟩ := by decide +kernel
theorem f3 : ∀ x ∈ [a1S, a2S, b1S], (item_Field.f x).isSome = true := by
  intro x hx
  simp only [List.mem_cons, List.not_mem_nil, or_false] at hx
  rcases hx with rfl | rfl | rfl
  · rw [fa1]; rfl
  · rw [fa2]; rfl
  · rw [fb1]; rfl
theorem r3 : RF [a1S, a2S, b1S] := by
  unfold RF
  decide +kernel
theorem r2 : RF [a1S, a2S] := by
  unfold RF
  decide +kernel
theorem r1 : RF [a1S] := by
  unfold RF
  decide +kernel
theorem m1 : expr_Expr_Match.f a1S [[[]]] 0 = some ([[[a1S]]], 1, 0) := by
  have h : item_Sorted.f [a1S] = some [a1S] := sorted_is (fun x hx => f3 x (by simp_all)) (by simp) r1
  show (item_Field.f a1S).bind _ = _
  rw [fa1]
  show (item_Sorted.f [a1S]).bind _ = _
  rw [h]
  show some (_, wrap64 (0 + 1), _) = _
  rw [show wrap64 ((0 : Int) + 1) = 1 by decide +kernel]
  rfl
theorem m2 : expr_Expr_Match.f a2S [[[a1S]]] 1 = some ([[[a1S, a2S]]], 2, 0) := by
  have h : item_Sorted.f [a1S, a2S] = some [a1S, a2S] := sorted_is (fun x hx => f3 x (by simp only [List.mem_cons, List.not_mem_nil, or_false] at hx ⊢; rcases hx with h | h <;> simp [h])) (by simp) r2
  show (item_Field.f a2S).bind _ = _
  rw [fa2]
  show (item_Sorted.f [a1S, a2S]).bind _ = _
  rw [h]
  show some (_, wrap64 (1 + 1), _) = _
  rw [show wrap64 ((1 : Int) + 1) = 2 by decide +kernel]
  rfl
theorem m3 : expr_Expr_Match.f b1S [[[a1S, a2S]]] 2 = some ([[[a1S, a2S, b1S]]], 3, 0) := by
  have h : item_Sorted.f [a1S, a2S, b1S] = some [a1S, a2S, b1S] := sorted_is f3 (by simp) r3
  show (item_Field.f b1S).bind _ = _
  rw [fb1]
  show (item_Sorted.f [a1S, a2S, b1S]).bind _ = _
  rw [h]
  show some (_, wrap64 (2 + 1), _) = _
  rw [show wrap64 ((2 : Int) + 1) = 3 by decide +kernel]
  rfl
theorem aw3 : awk3 [a1S, a2S, b1S] [[[]]] 0 = some ([[[a1S, a2S, b1S]]], true) := by
  rw [awk3, m1]
  show awk3 [a2S, b1S] [[[a1S]]] 1 = _
  rw [awk3, m2]
  show awk3 [b1S] [[[a1S, a2S]]] 2 = _
  rw [awk3, m3]
  rfl
theorem lv3 : expr_Expr_Levels.f [[[a1S, a2S, b1S]]] = some [[[a1S, a2S, b1S]]] := by
  unfold expr_Expr_Levels.f
  rw [if_pos (by
    refine ⟨by simp, fun l hl => ?_⟩
    rw [List.mem_singleton.1 hl]
    refine ⟨by simp, fun c hc => ?_⟩
    rw [List.mem_singleton.1 hc]
    simp)]
  rfl
theorem c1 : expr_choice.f 20 [a1S, a2S, b1S] [a2S, b1S] = some true := by decide +kernel
theorem c2 : expr_choice.f 20 [a1S, a2S, b1S] [a1S, a2S] = some false := by decide +kernel
theorem is1 : Ev (fun k => expr_Expr_Is.f k [[[a1S, a2S, b1S]]] [a2S, b1S]) true :=
  Ev.bindc lv3 (Ev.bind (Ev.bind (Ev.of (fun k => expr_choice.mono _ _ k) c1) (Ev.pos rfl (Ev.now 0))) (Ev.pos (by decide) (Ev.now _)))
theorem is2 : Ev (fun k => expr_Expr_Is.f k [[[a1S, a2S, b1S]]] [a1S, a2S]) false :=
  Ev.bindc lv3 (Ev.bind (Ev.bind (Ev.of (fun k => expr_choice.mono _ _ k) c2) (Ev.neg (by decide) (Ev.now (-1)))) (Ev.neg (by decide) (Ev.now _)))
theorem awake_tells : Ev (fun k => logbooklaw26_awake.f k) true :=
  Ev.bindc aw3 (Ev.pos rfl (Ev.bind is1 (Ev.pos rfl (Ev.bind is2 (Ev.now _)))))
end IE
end Go.Proofs.Ytajlgbonapfckaa.Pure
