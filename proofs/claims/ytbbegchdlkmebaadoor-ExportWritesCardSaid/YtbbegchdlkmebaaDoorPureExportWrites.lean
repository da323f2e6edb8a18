/- ExportWrites: every entry, and every item of it, as a text: in plain Lean. -/
import Derived.Test.YtbbegchdlkmebaaDoorPExportWritesx8
import Derived.Test.YtbbegchdlkmebaaDoorHex
import Derived.Test.YtbbegchdlkmebaaDoorDec
import Derived.Test.YtbbegchdlkmebaaDoorStr
import Derived.Test.YtbbegchdlkmebaaDoorEvs
namespace Go.Proofs.YtbbegchdlkmebaaDoor.Pure
open Go.RowKit Go.Proofs.YtbbegchdlkmebaaDoor.PExportWrites Go.Proofs.YtbbegchdlkmebaaDoorW.PrintWords Go.Proofs.YtbbegchdlkmebaaDoorW.PrintLast Go.Proofs.YtbbegchdlkmebaaDoorW.PrintMore Go.Proofs.YtbbegchdlkmebaaDoor.Evs Go.Proofs.YtbbegchdlkmebaaDoor.Str Go.Proofs.YtbbegchdlkmebaaDoor.Conv Go.Proofs.YtbbegchdlkmebaaDoor.Hex Go.Proofs.YtbbegchdlkmebaaDoor.Dec
set_option linter.unusedVariables false
set_option linter.unusedSimpArgs false
namespace EW
/-! ### names -/
def Good (c : Int) (i : Nat) : Prop := c = 95 ∨ (65 ≤ c ∧ c ≤ 90) ∨ (48 ≤ c ∧ c ≤ 57 ∧ 0 < i)
theorem wi {i n : Nat} (h : i ≤ n) (hn : n ≤ 140737488355328) : wrap64 ((i : Int) + 1) = ((i + 1 : Nat) : Int) := by
  rw [w64 (by omega) (by omega)]
  omega
theorem j1_step (s : ByteArray) (i : Nat) (hi : i < s.size) (hs : s.size ≤ 140737488351232) (R : Bool) (hg : Good (bt s i) i → Ev (fun k => logbookref04_Name.l0 k s ((i + 1 : Nat) : Int)) R) (hb : ¬ Good (bt s i) i → R = false) :
    Ev (fun k => logbookref04_Name.j1 k s i true) R := by
  refine Ev.step (fun k => logbookref04_Name.j1.eq_2 _ _ _ _) (Ev.pos rfl (Ev.pos (by omega) (Ev.pos (by omega) ?_)))
  rw [wi (i := i) (n := s.size) (by omega) (by omega)]
  unfold Good at hg hb
  generalize bt s (i : Int) = c at hg hb ⊢
  by_cases a : 65 ≤ c ∧ c ≤ 90
  · have e := hg (Or.inr (Or.inl a))
    exact Ev.pos a.1 (Ev.pos a.2 (Ev.pos (by omega) e))
  · by_cases u : c = 95
    · have e := hg (Or.inl u)
      exact Ev.both (fun _ => Ev.neg (by omega) (Ev.pos (by omega) (Ev.pos u e))) (fun _ => Ev.pos (by omega) (Ev.pos u e))
    · by_cases d : 48 ≤ c ∧ c ≤ 57
      · refine Ev.neg (by omega) (Ev.pos (by omega) (Ev.neg u (Ev.pos (by omega) ?_)))
        refine Ev.both (fun z => hg (Or.inr (Or.inr ⟨d.1, d.2, by omega⟩))) (fun z => Ev.eq (Ev.now _) (hb (by omega)).symm)
      · have e : false = R := (hb (by omega)).symm
        exact Ev.both (fun _ => Ev.neg (by omega) (Ev.pos (by omega) (Ev.neg u (Ev.neg (by omega) (Ev.eq (Ev.now _) e))))) (fun _ => Ev.both (fun _ => Ev.neg u (Ev.neg (by omega) (Ev.eq (Ev.now _) e))) (fun _ => Ev.neg u (Ev.eq (Ev.now _) e)))
theorem name_long (s : ByteArray) (hs : s.size ≤ 140737488351232) (h : 64 < s.size) : ∀ (d i : Nat), d + i = 65 → Ev (fun k => logbookref04_Name.l0 k s i) false
  | 0, i, hd => by
    refine Ev.step (fun k => logbookref04_Name.l0.eq_2 _ _ _) (Ev.both (fun _ => ?_) (fun _ => ?_))
    · rw [decide_eq_false (show ¬ (i : Int) ≤ 64 by omega)]
      exact Ev.step (fun k => logbookref04_Name.j1.eq_2 _ _ _ _) (Ev.neg (by simp) (Ev.pos (by omega) (Ev.eq (Ev.now _) (decide_eq_false (by omega)))))
    · exact Ev.step (fun k => logbookref04_Name.j1.eq_2 _ _ _ _) (Ev.neg (by simp) (Ev.pos (by omega) (Ev.eq (Ev.now _) (decide_eq_false (by omega)))))
  | d + 1, i, hd => by
    refine Ev.step (fun k => logbookref04_Name.l0.eq_2 _ _ _) (Ev.pos (by omega) ?_)
    rw [decide_eq_true (show (i : Int) ≤ 64 by omega)]
    exact j1_step s i (by omega) hs false (fun _ => name_long s hs h d (i + 1) (by omega)) (fun _ => rfl)
theorem name_short (s : ByteArray) (hs : s.size ≤ 64) (h1 : 1 ≤ s.size) (R : Bool) : ∀ (d i : Nat), d + i = s.size → (R = true → ∀ j, i ≤ j → j < s.size → Good (bt s j) j) → (R = false → ∃ j, i ≤ j ∧ j < s.size ∧ ¬ Good (bt s j) j) → Ev (fun k => logbookref04_Name.l0 k s i) R
  | 0, i, hd, ht, hf => by
    have e : R = true := by
      cases R with
      | true => rfl
      | false =>
        obtain ⟨j, h2, h3, _⟩ := hf rfl
        omega
    refine Ev.step (fun k => logbookref04_Name.l0.eq_2 _ _ _) (Ev.neg (by omega) ?_)
    exact Ev.step (fun k => logbookref04_Name.j1.eq_2 _ _ _ _) (Ev.neg (by simp) (Ev.pos (by omega) (Ev.eq (Ev.now _) (by rw [e]; exact decide_eq_true (by omega)))))
  | d + 1, i, hd, ht, hf => by
    refine Ev.step (fun k => logbookref04_Name.l0.eq_2 _ _ _) (Ev.pos (by omega) ?_)
    rw [decide_eq_true (show (i : Int) ≤ 64 by omega)]
    refine j1_step s i (by omega) (by omega) R (fun hg => ?_) (fun hn => ?_)
    · refine name_short s hs h1 R d (i + 1) (by omega) (fun hr j h2 h3 => ht hr j (by omega) h3) (fun hr => ?_)
      obtain ⟨j, h2, h3, h4⟩ := hf hr
      refine ⟨j, ?_, h3, h4⟩
      rcases Nat.lt_or_ge i j with h | h
      · exact h
      · obtain rfl : j = i := by omega
        exact absurd hg h4
    · cases R with
      | false => rfl
      | true => exact absurd (ht rfl i (Nat.le_refl _) (by omega)) hn
def nameV (s : ByteArray) : Bool := if s.size = 0 then false else if s.size > 64 then false else if 48 ≤ bt s 0 ∧ bt s 0 ≤ 57 then false else (bytesOf s).all nameB
theorem name_f (s : ByteArray) : item_Name.f s = some (nameV s) := by
  unfold item_Name.f nameV
  split
  · rfl
  · split
    · rfl
    · split <;> rfl
theorem nameB_iff (c : Int) : nameB c = true ↔ (c = 95 ∨ (65 ≤ c ∧ c ≤ 90) ∨ (48 ≤ c ∧ c ≤ 57)) := by
  constructor
  · intro h
    apply Decidable.byContradiction
    intro hn
    rw [nameB_no hn] at h
    cases h
  · exact nameB_yes
theorem all_bytes (s : ByteArray) : (bytesOf s).all nameB = true ↔ ∀ j, j < s.size → nameB (bt s (j : Nat)) = true := by
  rw [List.all_eq_true]
  constructor
  · intro h j hj
    have h1 : j < (bytesOf s).length := by rw [bytesOf_length]; exact hj
    have := h _ (List.getElem_mem h1)
    rw [bt_get, List.getD_eq_getElem?_getD, List.getElem?_eq_getElem h1]
    exact this
  · intro h x hx
    obtain ⟨j, hj, rfl⟩ := List.mem_iff_getElem.1 hx
    rw [bytesOf_length] at hj
    have h1 : j < (bytesOf s).length := by rw [bytesOf_length]; exact hj
    have := h j hj
    rw [bt_get, List.getD_eq_getElem?_getD, List.getElem?_eq_getElem h1] at this
    exact this
theorem ref_name (s : ByteArray) (hs : s.size ≤ 140737488351232) : Ev (fun k => logbookref04_Name.f k s) (nameV s) := by
  unfold nameV
  by_cases h0 : s.size = 0
  · rw [if_pos h0]
    exact Ev.step (fun k => logbookref04_Name.l0.eq_2 _ _ _) (Ev.neg (by omega) (Ev.step (fun k => logbookref04_Name.j1.eq_2 _ _ _ _) (Ev.neg (by simp) (Ev.neg (by omega) (Ev.now _)))))
  rw [if_neg h0]
  by_cases h64 : s.size > 64
  · rw [if_pos h64]
    exact name_long s hs h64 65 0 rfl
  rw [if_neg h64]
  by_cases hd : 48 ≤ bt s 0 ∧ bt s 0 ≤ 57
  · rw [if_pos hd]
    refine name_short s (by omega) (by omega) false s.size 0 (by omega) (fun h => by cases h) (fun _ => ⟨0, Nat.le_refl _, by omega, ?_⟩)
    unfold Good
    have e : bt s ((0 : Nat) : Int) = bt s 0 := rfl
    rw [e]
    omega
  · rw [if_neg hd]
    refine name_short s (by omega) (by omega) _ s.size 0 (by omega) (fun h j _ hj => ?_) (fun h => ?_)
    · have h1 := (nameB_iff _).1 ((all_bytes s).1 h j hj)
      unfold Good
      rcases Nat.eq_zero_or_pos j with hz | hz
      · subst hz
        have e : bt s ((0 : Nat) : Int) = bt s 0 := rfl
        rw [e] at h1 ⊢
        omega
      · omega
    · apply Classical.byContradiction
      intro hn
      have : (bytesOf s).all nameB = true := (all_bytes s).2 (fun j hj => by
        rw [nameB_iff]
        have : Good (bt s j) j := Classical.byContradiction fun hx => hn ⟨j, Nat.zero_le _, hj, hx⟩
        unfold Good at this
        omega)
      rw [this] at h
      cases h
/-! ### cuts -/
def idxE : List Int → Int
  | [] => -1
  | b :: l => if b = 61 then 0 else if idxE l = -1 then -1 else idxE l + 1
theorem u61 (b : UInt8) : (b == 61) = decide ((b.toNat : Int) = 61) := by
  by_cases h : b = 61
  · subst h
    rfl
  · rw [beq_false_of_ne h]
    symm
    apply decide_eq_false
    intro e
    apply h
    apply UInt8.toNat_inj.1
    show b.toNat = 61
    omega
theorem idx_eq : ∀ l : List UInt8, Lib.indexByte l 61 = idxE (l.map fun b => (b.toNat : Int))
  | [] => rfl
  | b :: l => by
    rw [List.map_cons, Lib.indexByte, idxE, idx_eq l, u61]
    simp only [decide_eq_true_eq, beq_iff_eq]
theorem idxE_cases : ∀ l : List Int, (idxE l = -1 ∧ ∀ j, j < l.length → l.getD j 0 ≠ 61) ∨ (∃ m : Nat, idxE l = m ∧ m < l.length ∧ l.getD m 0 = 61 ∧ ∀ j, j < m → l.getD j 0 ≠ 61)
  | [] => .inl ⟨rfl, fun j h => by simp at h⟩
  | c :: r => by
    by_cases e : c = 61
    · exact .inr ⟨0, by simp [idxE, e], by simp, by simpa using e, fun j h => by omega⟩
    · rcases idxE_cases r with ⟨h1, h2⟩ | ⟨m, h1, h2, h3, h4⟩
      · refine .inl ⟨by rw [idxE, if_neg e, if_pos h1], fun j hj => ?_⟩
        cases j with
        | zero => simpa using e
        | succ j => simpa using h2 j (by simpa using hj)
      · refine .inr ⟨m + 1, by rw [idxE, if_neg e, h1, if_neg (by omega)]; omega, by simpa using h2, by simpa using h3, fun j hj => ?_⟩
        cases j with
        | zero => simpa using e
        | succ j => simpa using h4 j (by omega)
def eqs : ByteArray := ⟨#[61]⟩
theorem index_tells (s : ByteArray) : stringslite_Index.f s eqs = some (idxE (bytesOf s)) := by
  have e : stringslite_Index.f s eqs = some (Lib.indexByte s.data.toList 61) := rfl
  rw [e, idx_eq]
  rfl
def splitV (s : ByteArray) (m : Nat) : ByteArray × ByteArray × Bool := if nameV (s.extract 0 m) = true then (s.extract 0 m, s.extract (m + 1) s.size, true) else (⟨#[]⟩, ⟨#[]⟩, false)
theorem weq {m n : Nat} (h : m ≤ n) (hn : n ≤ 140737488355328) : wrap64 ((m : Int) + ((eqs.size : Nat) : Int)) = ((m + 1 : Nat) : Int) := by
  have h1 : ((eqs.size : Nat) : Int) = 1 := rfl
  generalize ((eqs.size : Nat) : Int) = z at h1 ⊢
  subst h1
  exact wi h hn
theorem split_hit (s : ByteArray) (hs : s.size ≤ 140737488351232) (m : Nat) (h : idxE (bytesOf s) = m) (hm : m < s.size) : item_Split.f s = some (splitV s m) := by
  have b1 : m ≤ s.size := by omega
  have b2 : s.size ≤ 140737488355328 := by omega
  have e1 : strings_Cut.f s eqs = some (s.extract 0 m, s.extract (m + 1) s.size, true) := by
    unfold strings_Cut.f stringslite_Cut.f
    rw [index_tells, h]
    simp only [Option.bind_some]
    rw [weq b1 b2, if_pos (by omega), if_pos (by omega), if_pos (by omega), if_pos (by omega), if_pos (by omega)]
    rfl
  show (strings_Cut.f s eqs).bind _ = _
  rw [e1]
  simp only [Option.bind_some]
  rw [if_pos trivial, name_f]
  simp only [Option.bind_some]
  unfold splitV
  split <;> rfl
theorem split_miss (s : ByteArray) (h : idxE (bytesOf s) = -1) : item_Split.f s = some (⟨#[]⟩, ⟨#[]⟩, false) := by
  have e1 : strings_Cut.f s eqs = some (s, ⟨#[]⟩, false) := by
    unfold strings_Cut.f stringslite_Cut.f
    rw [index_tells, h]
    rfl
  show (strings_Cut.f s eqs).bind _ = _
  rw [e1]
  rfl
theorem ref_hit (s : ByteArray) (hs : s.size ≤ 140737488351232) (m : Nat) (hm : m < s.size) (he : bt s (m : Nat) = 61) (hn : ∀ j, j < m → bt s (j : Nat) ≠ 61) : ∀ (d i : Nat), d + i = m → Ev (fun k => logbookref04_Split.l0 k s i) (splitV s m)
  | 0, i, hd => by
    obtain rfl : i = m := by omega
    have hsz : (s.extract 0 i).size ≤ 140737488351232 := by
      rw [ByteArray.size_extract]
      omega
    refine Ev.step (fun k => logbookref04_Split.l0.eq_2 _ _ _) ?_
    rw [wi (i := i) (n := s.size) (by omega) (by omega)]
    refine Ev.pos (by omega) (Ev.pos (by omega) (Ev.pos he (Ev.pos (by omega) ?_)))
    rw [Int.toNat_natCast, Int.toNat_natCast]
    refine Ev.bind (ref_name _ hsz) ?_
    unfold splitV
    refine Ev.both (fun h => ?_) (fun h => ?_)
    · rw [if_pos h]
      exact Ev.pos (by omega) (Ev.pos (by omega) (Ev.now _))
    · rw [if_neg h]
      exact Ev.now _
  | d + 1, i, hd => by
    refine Ev.step (fun k => logbookref04_Split.l0.eq_2 _ _ _) (Ev.pos (by omega) (Ev.pos (by omega) (Ev.neg (hn i (by omega)) ?_)))
    rw [wi (i := i) (n := s.size) (by omega) (by omega)]
    exact ref_hit s hs m hm he hn d (i + 1) (by omega)
theorem ref_miss (s : ByteArray) (hs : s.size ≤ 140737488351232) (hn : ∀ j, j < s.size → bt s (j : Nat) ≠ 61) : ∀ (d i : Nat), d + i = s.size → Ev (fun k => logbookref04_Split.l0 k s i) (⟨#[]⟩, ⟨#[]⟩, false)
  | 0, i, hd => Ev.step (fun k => logbookref04_Split.l0.eq_2 _ _ _) (Ev.neg (by omega) (Ev.now _))
  | d + 1, i, hd => by
    refine Ev.step (fun k => logbookref04_Split.l0.eq_2 _ _ _) (Ev.pos (by omega) (Ev.pos (by omega) (Ev.neg (hn i (by omega)) ?_)))
    rw [wi (i := i) (n := s.size) (by omega) (by omega)]
    exact ref_miss s hs hn d (i + 1) (by omega)
theorem split_tells (s : ByteArray) (hs : s.size ≤ 140737488351232) : ∃ v, item_Split.f s = some v ∧ Ev (fun k => logbookref04_Split.f k s) v := by
  rcases idxE_cases (bytesOf s) with ⟨h1, h2⟩ | ⟨m, h1, h2, h3, h4⟩
  · refine ⟨_, split_miss s h1, ?_⟩
    exact ref_miss s hs (fun j hj => by rw [bt_get]; exact h2 j (by rw [bytesOf_length]; exact hj)) s.size 0 (by omega)
  · rw [bytesOf_length] at h2
    refine ⟨_, split_hit s hs m h1 h2, ?_⟩
    exact ref_hit s hs m h2 (by rw [bt_get]; exact h3) (fun j hj => by rw [bt_get]; exact h4 j hj) m 0 (by omega)
/-! ### items as texts -/
theorem split_sizes (s : ByteArray) (hs : s.size ≤ 140737488351232) : ∃ v, item_Split.f s = some v ∧ Ev (fun k => logbookref04_Split.f k s) v ∧ v.1.size + v.2.1.size ≤ s.size := by
  rcases idxE_cases (bytesOf s) with ⟨h1, h2⟩ | ⟨m, h1, h2, h3, h4⟩
  · refine ⟨_, split_miss s h1, ?_, Nat.zero_le _⟩
    exact ref_miss s hs (fun j hj => by rw [bt_get]; exact h2 j (by rw [bytesOf_length]; exact hj)) s.size 0 (by omega)
  · rw [bytesOf_length] at h2
    refine ⟨_, split_hit s hs m h1 h2, ref_hit s hs m h2 (by rw [bt_get]; exact h3) (fun j hj => by rw [bt_get]; exact h4 j hj) m 0 (by omega), ?_⟩
    unfold splitV
    split
    · show (s.extract 0 m).size + (s.extract (m + 1) s.size).size ≤ s.size
      rw [ByteArray.size_extract, ByteArray.size_extract]
      omega
    · exact Nat.zero_le _
theorem printB_iff (c : Int) : printB c = true ↔ ¬ ((c < 32 ∧ c ≠ 9) ∨ c = 127) := by
  unfold printB
  simp
  omega
theorem printable_go (s : ByteArray) (hs : s.size ≤ 140737488351232) : ∀ (d i : Nat), d + i = s.size → Ev (fun k => logbookref32_printable.l0 k s (i : Int)) (((bytesOf s).drop i).all printB)
  | 0, i, hd => by
    rw [List.drop_of_length_le (by rw [bytesOf_length]; omega)]
    exact Ev.step (fun k => logbookref32_printable.l0.eq_2 _ _ _) (Ev.neg (by omega) (Ev.now _))
  | d + 1, i, hd => by
    have hi : i < s.size := by omega
    have ih := printable_go s hs d (i + 1) (by omega)
    refine Ev.step (fun k => logbookref32_printable.l0.eq_2 _ _ _) (Ev.pos (by omega) (Ev.pos (by omega) ?_))
    rw [wi (i := i) (n := s.size) (by omega) (by omega), bt_drop s i hi, List.all_cons]
    generalize bt s (i : Int) = c
    have yes : ¬ ((c < 32 ∧ c ≠ 9) ∨ c = 127) → ((bytesOf s).drop (i + 1)).all printB = (printB c && ((bytesOf s).drop (i + 1)).all printB) := fun h => by
      rw [(printB_iff c).2 h, Bool.true_and]
    have no : ((c < 32 ∧ c ≠ 9) ∨ c = 127) → false = (printB c && ((bytesOf s).drop (i + 1)).all printB) := fun h => by
      have : printB c = false := by
        cases hp : printB c with
        | false => rfl
        | true => exact absurd h ((printB_iff c).1 hp)
      rw [this, Bool.false_and]
    refine Ev.both (fun h32 => Ev.both (fun h9 => Ev.neg (by omega) (Ev.eq ih (yes (by omega)))) (fun h9 => Ev.eq (Ev.now _) (no (.inl ⟨h32, h9⟩)))) (fun h32 => Ev.both (fun h127 => Ev.eq (Ev.now _) (no (.inr h127))) (fun h127 => Ev.eq ih (yes (by omega))))
theorem bytes_go (n : Int) (h0 : 0 ≤ n) (h1 : n ≤ 18446744073709551615) : ∀ (d i : Nat), d + i = 8 → Ev (fun k => logbookref01_Bytes.l0 k (n / 256 ^ i) 8 (leGo i n) (i : Int)) (leGo 8 n)
  | 0, i, hd => by
    obtain rfl : i = 8 := by omega
    exact Ev.step (fun k => logbookref01_Bytes.l0.eq_2 _ _ _ _ _) (Ev.neg (by decide) (Ev.now _))
  | d + 1, i, hd => by
    have hin := leGo_in i n h0 h1
    have hnx := leGo_next i n
    have hlen := leGo_len i n
    refine Ev.step (fun k => logbookref01_Bytes.l0.eq_2 _ _ _ _ _) (Ev.pos (by omega) (Ev.pos (by omega) (Ev.pos (by omega) ?_)))
    have ih := bytes_go n h0 h1 d (i + 1) (by omega)
    rw [← hnx] at ih
    rw [wi (i := i) (n := 8) (by omega) (by omega), Int.tdiv_eq_ediv_of_nonneg hin.1, Int.tmod_eq_emod_of_nonneg hin.1, wu64 (by omega) (by omega), show n / 256 ^ i % 256 % 256 = n / 256 ^ i % 256 by omega]
    exact ih
theorem bytes_tells (n : Int) (h0 : 0 ≤ n) (h1 : n ≤ 18446744073709551615) : Ev (fun k => logbookref01_Bytes.f k n 8) (leGo 8 n) := by
  have h := bytes_go n h0 h1 8 0 rfl
  rw [Int.pow_zero, Int.ediv_one] at h
  exact h
theorem le_tells (n : Int) (h0 : 0 ≤ n) (h1 : n ≤ 18446744073709551615) : le_Bytes.f n 8 = some (leGo 8 n) := if_pos ⟨h0, h1⟩
theorem le_size (n : Int) : (strOfNums (leGo 8 n)).size = 8 := by
  rw [strOfNums_size, leGo_len]
theorem item_same (s : ByteArray) (hs : s.size ≤ 140737488351232) : ∃ r, export_Item.f s = some r ∧ Ev (fun k => logbookref32_Item.f k s) r ∧ r.size ≤ s.size + 10 := by
  obtain ⟨⟨f, v, b⟩, h1, h2, h3⟩ := split_sizes s hs
  have h3' : f.size + v.size ≤ s.size := h3
  cases b with
  | false => exact ⟨⟨#[]⟩, by unfold export_Item.f; rw [h1]; rfl, Ev.bind h2 (Ev.neg (by simp) (Ev.now _)), Nat.zero_le _⟩
  | true =>
    have hp : export_printable.f v = some ((bytesOf v).all printB) := if_pos (by omega)
    have hq := printable_go v (by omega) v.size 0 rfl
    rw [List.drop_zero] at hq
    cases hb : (bytesOf v).all printB with
    | true =>
      rw [hb] at hp hq
      refine ⟨s ++ ⟨#[10]⟩, ?_, Ev.bind h2 (Ev.pos rfl (Ev.bind hq (Ev.pos rfl (Ev.pos (by omega) (Ev.now _))))), by rw [ByteArray.size_append]; show s.size + 1 ≤ _; omega⟩
      unfold export_Item.f
      rw [h1]
      simp only [Option.bind_some]
      rw [if_pos trivial, hp]
      simp only [Option.bind_some]
      rw [if_pos trivial, if_pos (by omega)]
    | false =>
      rw [hb] at hp hq
      have hl := le_tells (v.size : Int) (by omega) (by omega)
      have hm := bytes_tells (v.size : Int) (by omega) (by omega)
      have hz := le_size (v.size : Int)
      refine ⟨(((f ++ ⟨#[10]⟩) ++ strOfNums (leGo 8 (v.size : Int))) ++ v) ++ ⟨#[10]⟩, ?_, Ev.bind h2 (Ev.pos rfl (Ev.bind hq (Ev.neg (by simp) (Ev.pos (by omega) (Ev.pos (by omega) (Ev.bind hm (Ev.pos (by omega) (Ev.pos (by omega) (Ev.pos (by omega) (Ev.now _)))))))))), ?_⟩
      · unfold export_Item.f
        rw [h1]
        simp only [Option.bind_some]
        rw [if_pos trivial, hp]
        simp only [Option.bind_some]
        rw [if_neg (by simp), if_pos (by omega), if_pos (by omega), hl]
        simp only [Option.bind_some]
        rw [if_pos (by omega), if_pos (by omega), if_pos (by omega)]
      · rw [ByteArray.size_append, ByteArray.size_append, ByteArray.size_append, ByteArray.size_append, hz]
        show f.size + 1 + 8 + v.size + 1 ≤ _
        omega
/-! ### entries as texts -/
def szs : List ByteArray → Nat
  | [] => 0
  | x :: r => x.size + 10 + szs r
theorem items_go (L : List ByteArray) (hL : L.length ≤ 70) (hz : ∀ x ∈ L, x.size ≤ 140737488351232) : ∀ (l : List ByteArray) (i : Nat) (acc : ByteArray), L.drop i = l → acc.size + szs l ≤ 140737488355326 →
    ∃ r, (∀ k, eItems k acc l = some r) ∧ Ev (fun k => logbookref32_Entry.l0 k L acc (i : Int)) (r ++ (⟨#[10]⟩ : ByteArray)) ∧ r.size ≤ acc.size + szs l
  | [], i, acc, hd, hs => by
    have hi : L.length ≤ i := List.drop_eq_nil_iff.1 hd
    refine ⟨acc, fun k => rfl, ?_, by show acc.size ≤ _; omega⟩
    have h0 : acc.size + szs [] = acc.size := rfl
    exact Ev.step (fun k => logbookref32_Entry.l0.eq_2 _ _ _ _) (Ev.neg (by omega) (Ev.pos (by omega) (Ev.now _)))
  | x :: r, i, acc, hd, hs => by
    have hi : i < L.length := by
      rcases Nat.lt_or_ge i L.length with h | h
      · exact h
      · rw [List.drop_of_length_le h] at hd
        cases hd
    have hx : L[i] = x ∧ L.drop (i + 1) = r := by
      rw [List.drop_eq_getElem_cons hi] at hd
      injection hd with h1 h2
      exact ⟨h1, h2⟩
    have hrd : rdOf ByteArray.empty L (i : Int) = x := by
      unfold rdOf
      rw [Int.toNat_natCast, List.getD_eq_getElem?_getD, List.getElem?_eq_getElem hi, hx.1]
      rfl
    obtain ⟨t, h1, h2, h3⟩ := item_same x (hz x (by rw [← hx.1]; exact List.getElem_mem hi))
    have hs' : acc.size + (x.size + 10 + szs r) ≤ 140737488355326 := hs
    have ht : (acc ++ t).size = acc.size + t.size := ByteArray.size_append
    obtain ⟨q, i1, i2, i3⟩ := items_go L hL hz r (i + 1) (acc ++ t) hx.2 (by omega)
    refine ⟨q, fun k => ?_, ?_, by show q.size ≤ acc.size + (x.size + 10 + szs r); omega⟩
    · unfold eItems
      rw [h1]
      simp only [Option.bind_some]
      rw [if_pos (by omega)]
      exact i1 k
    · refine Ev.step (fun k => logbookref32_Entry.l0.eq_2 _ _ _ _) (Ev.pos (by omega) (Ev.pos (by omega) ?_))
      rw [hrd]
      refine Ev.bind h2 (Ev.pos (by omega) ?_)
      rw [wi (i := i) (n := L.length) (by omega) (by omega)]
      exact i2
namespace Num
theorem w8 {n : Int} (h0 : 0 ≤ n) (h : n < 10) : IntKind.u64.wrap (48 + n) % 256 = 48 + n := by
  rw [wu64 (by omega) (by omega)]
  omega
theorem div10 {n : Int} (h0 : 0 ≤ n) (h1 : n ≤ 18446744073709551615) : IntKind.u64.wrap (Int.tdiv n 10) = n / 10 := by
  rw [Int.tdiv_eq_ediv_of_nonneg h0, wu64 (by omega) (by omega)]
theorem mod10 {n : Int} (h0 : 0 ≤ n) : IntKind.u64.wrap (48 + Int.tmod n 10) % 256 = 48 + n % 10 := by
  rw [Int.tmod_eq_emod_of_nonneg h0]
  exact w8 (by omega) (by omega)
theorem small_div {n m : Int} (h0 : 0 ≤ n) (h1 : n ≤ m) : 0 ≤ n / 10 ∧ n / 10 ≤ m := by omega
theorem dec_tells : ∀ (d : Nat) (n : Int), d ≤ 20 → 0 ≤ n → n ≤ 18446744073709551615 → n < 10 ^ (d + 1) → Ev (fun k => export_Decimal.f k n) (strOfNums (decF (d + 1) n))
  | d, n, hd, h0, h1, hn => by
    refine Ev.step (fun k => export_Decimal.f.eq_2 _ _) ?_
    by_cases h : n < 10
    · refine Ev.pos h ?_
      rw [w8 h0 h, decF_small h]
      exact Ev.now _
    · refine Ev.neg h ?_
      rw [decF_big h, div10 h0 h1, mod10 h0]
      match d, hn with
      | 0, hn =>
        simp at hn
        exact absurd hn h
      | d + 1, hn =>
        have hs := small_div h0 h1
        refine Ev.bind (dec_tells d (n / 10) (by omega) hs.1 hs.2 (pow_lt hn)) (Ev.bindc rfl (Ev.pos ?_ ?_))
        · rw [size_str, size_str]
          have := decF_len (d + 1) (n / 10)
          simp
          omega
        · rw [str_append]
          exact Ev.now _
theorem lt20 {n : Int} (h1 : n ≤ 18446744073709551615) : n < 10 ^ (19 + 1) := by
  have : (10 : Int) ^ (19 + 1) = 100000000000000000000 := by decide
  omega
def dec (n : Int) : List Int := decF 20 n
theorem decimal_tells (n : Int) (h0 : 0 ≤ n) (h1 : n ≤ 18446744073709551615) : Ev (fun k => export_Decimal.f k n) (strOfNums (dec n)) := dec_tells 19 n (by omega) h0 h1 (lt20 h1)

/-- The reference's: digits are put ahead. -/
theorem ref_go : ∀ (d : Nat) (n : Int) (acc : List Int), d ≤ 20 → acc.length + d ≤ 40 → 0 ≤ n → n ≤ 18446744073709551615 → n < 10 ^ d → acc ≠ [] → Bytes acc →
    Ev (fun k => logbookref32_Decimal.l0 k n (strOfNums acc)) (strOfNums ((if n = 0 then [] else decF d n) ++ acc))
  | d, n, acc, hd, hl, h0, h1, hn, hne, hb => by
    by_cases hz : n = 0
    · subst hz
      refine Ev.step (fun k => logbookref32_Decimal.l0.eq_2 _ _ _) (Ev.neg (by omega) (Ev.neg ?_ ?_))
      · intro e
        have := toList_eq_nil.1 e
        rw [size_str] at this
        exact hne (List.eq_nil_of_length_eq_zero this)
      · rw [if_pos rfl]
        exact Ev.now _
    · rw [if_neg hz]
      match d, hn with
      | 0, hn =>
        simp at hn
        omega
      | d + 1, hn =>
        have hs := small_div h0 h1
        refine Ev.step (fun k => logbookref32_Decimal.l0.eq_2 _ _ _) (Ev.pos (by omega) (Ev.bindc rfl (Ev.pos ?_ ?_)))
        · rw [size_str, size_str]
          simp
          omega
        · rw [mod10 h0, div10 h0 h1, str_append]
          have ih := ref_go d (n / 10) ((48 + n % 10) :: acc) (by omega) (by simp; omega) hs.1 hs.2 (pow_lt hn) (by simp) (by
            intro x hx
            rcases List.mem_cons.1 hx with rfl | hx
            · omega
            · exact hb x hx)
          refine Ev.eq ih ?_
          congr 1
          by_cases h : n < 10
          · rw [if_pos (by omega), decF_small h, show n % 10 = n by omega]
            rfl
          · rw [if_neg (by omega), decF_big h, List.append_assoc]
            rfl
theorem ref_decimal (n : Int) (h0 : 0 ≤ n) (h1 : n ≤ 18446744073709551615) : Ev (fun k => logbookref32_Decimal.f k n) (strOfNums (dec n)) := by
  have hs := small_div h0 h1
  have hq : n / 10 < 10 ^ 19 := pow_lt (lt20 h1)
  have ih := ref_go 19 (n / 10) [48 + n % 10] (by omega) (by simp) hs.1 hs.2 hq (by simp) (by
    intro x hx
    rw [List.mem_singleton.1 hx]
    omega)
  have hf : ∀ k, logbookref32_Decimal.f k n = logbookref32_Decimal.l0 k n (⟨#[]⟩ : ByteArray) := fun _ => rfl
  refine Ev.congr hf ?_
  have e : (if n / 10 = 0 then [] else decF 19 (n / 10)) ++ [48 + n % 10] = dec n := by
    by_cases h : n < 10
    · rw [if_pos (by omega)]
      show _ = decF 20 n
      rw [decF_small h, show n % 10 = n by omega]
      rfl
    · rw [if_neg (by omega)]
      exact (decF_big h).symm
  rw [e] at ih
  have e2 : strOfNums [48 + n % 10] ++ (⟨#[]⟩ : ByteArray) = strOfNums [48 + n % 10] := by
    apply bytesOf_inj
    rw [bytesOf_append, bytesOf_empty, List.append_nil]
  have e3 : (strOfNums [48 + n % 10]).size + (⟨#[]⟩ : ByteArray).size ≤ 9223372036854775807 := by
    rw [size_str]
    show (1 : Nat) + 0 ≤ 9223372036854775807
    decide
  by_cases hz : n > 0
  · refine Ev.step (fun k => logbookref32_Decimal.l0.eq_2 _ _ _) (Ev.pos hz (Ev.bindc rfl (Ev.pos ?_ ?_)))
    · rw [mod10 h0]
      exact e3
    · rw [mod10 h0, div10 h0 h1, e2]
      exact ih
  · refine Ev.step (fun k => logbookref32_Decimal.l0.eq_2 _ _ _) (Ev.neg hz (Ev.pos (toList_nil rfl) (Ev.bindc rfl (Ev.pos ?_ ?_))))
    · rw [mod10 h0]
      exact e3
    · rw [mod10 h0, div10 h0 h1, e2]
      exact ih
end Num
theorem hex_f (n : Int) (h : U64 n) : name_Hex.f n = some (strOfNums (hexL n)) := if_pos h
theorem trim_go : ∀ (d : Nat) (l : List Int), l.length = d → Bytes l → d ≤ 100000000 → Ev (fun k => strings_trimLeftByte.l0 k (strOfNums l) 48) (strOfNums (trim0 l))
  | 0, l, hl, hb, hd => by
    obtain rfl := List.eq_nil_of_length_eq_zero hl
    exact Ev.step (fun k => strings_trimLeftByte.l0.eq_2 _ _ _) (Ev.neg (by rw [size_str]; simp) (Ev.now _))
  | d + 1, c :: l, hl, hb, hd => by
    have hs : (strOfNums (c :: l)).size = d + 1 := by rw [size_str]; exact hl
    have h0 : bt (strOfNums (c :: l)) 0 = c := by
      have := bt_get (strOfNums (c :: l)) 0
      rw [bytes_str hb] at this
      exact this
    have he : (strOfNums (c :: l)).extract 1 (strOfNums (c :: l)).size = strOfNums l := by
      apply bytesOf_inj
      have hb2 : Bytes l := fun x hx => hb x (List.mem_cons_of_mem _ hx)
      rw [bytesOf_extract, bytes_str hb, bytes_str hb2, List.take_of_length_le (by rw [hs]; omega)]
      rfl
    refine Ev.step (fun k => strings_trimLeftByte.l0.eq_2 _ _ _) (Ev.pos (by omega) (Ev.pos (by omega) ?_))
    rw [h0, he]
    refine Ev.both (fun h => Ev.pos (by omega) ?_) (fun h => Ev.eq (Ev.now _) ?_)
    · subst h
      have ih := trim_go d l (by simpa using hl) (fun x hx => hb x (List.mem_cons_of_mem _ hx)) (by omega)
      have e : trim0 (48 :: l) = trim0 l := by
        unfold trim0
        rw [List.dropWhile_cons_of_pos (by simp)]
      rw [e]
      exact ih
    · unfold trim0
      rw [List.dropWhile_cons_of_neg (by simpa using h)]
theorem hexs_tells (n : Int) (h : U64 n) : Ev (fun k => cursor_Hex.f k n) (strOfNums (hexS n)) := by
  have hb : Bytes (hexL n) := isX_byte (hexL_isX n)
  have htb : Bytes (trim0 (hexL n)) := fun x hx => hb x (trim_mem hx)
  have ht : Ev (fun k => strings_TrimLeft.f k (strOfNums (hexL n)) (⟨#[48]⟩ : ByteArray)) (strOfNums (trim0 (hexL n))) := by
    have e48 : bt (⟨#[48]⟩ : ByteArray) 0 = 48 := rfl
    refine Ev.pos ⟨rfl, by rw [e48]; decide⟩ (Ev.neg ?_ ?_)
    · rw [size_str, hexL_len]
      decide
    · rw [e48]
      have := trim_go 16 (hexL n) (hexL_len n) hb (by decide)
      exact this
  refine Ev.bindc (hex_f n h) (Ev.bind ht ?_)
  unfold hexS
  by_cases e : trim0 (hexL n) = []
  · rw [if_pos e]
    exact Ev.pos (toList_eq_nil.2 (by rw [size_str, e]; rfl)) (Ev.now _)
  · rw [if_neg e]
    refine Ev.neg (fun e2 => e ?_) (Ev.now _)
    have := toList_eq_nil.1 e2
    rw [size_str] at this
    exact List.eq_nil_of_length_eq_zero this
theorem pieceK_str (key : UInt8) (l : List Int) : (⟨#[key, 61]⟩ : ByteArray) ++ strOfNums l = strOfNums (pieceK (key.toNat : Int) l) := by
  have e : (⟨#[key, 61]⟩ : ByteArray) = strOfNums [(key.toNat : Int), 61] := by
    show ByteArray.mk #[key, 61] = ByteArray.mk #[UInt8.ofNat ((key.toNat : Int)).toNat, 61]
    rw [ofNat_nat]
  rw [e, str_append]
  rfl
theorem text_tells (a b c d e f : Int) (ha : U64 a) (hb : U64 b) (hc : U64 c) (hd : U64 d) (he : U64 e) (hf : U64 f) : Ev (fun k => cursor_Cursor_Text.f k a b c d e f) (strOfNums (textL a b c d e f)) := by
  have sz : ∀ l : List Int, l.length ≤ 16 → 2 + (strOfNums l).size ≤ 9223372036854775807 := fun l hl => by rw [size_str]; omega
  have s16 : ∀ n, (hexL n).length ≤ 16 := fun n => by rw [hexL_len]; exact Nat.le_refl _
  refine Ev.bindc (hex_f a ha) (Ev.pos (sz _ (s16 a)) (Ev.bind (hexs_tells b hb) (Ev.pos (sz _ (hexS_len b)) (Ev.bindc (hex_f c hc) (Ev.pos (sz _ (s16 c)) (Ev.bind (hexs_tells d hd) (Ev.pos (sz _ (hexS_len d)) (Ev.bind (hexs_tells e he) (Ev.pos (sz _ (hexS_len e)) (Ev.bind (hexs_tells f hf) (Ev.pos (sz _ (hexS_len f)) ?_)))))))))))
  have hj : strings_Join.f ([(⟨#[115, 61]⟩ : ByteArray) ++ strOfNums (hexL a), (⟨#[105, 61]⟩ : ByteArray) ++ strOfNums (hexS b), (⟨#[98, 61]⟩ : ByteArray) ++ strOfNums (hexL c), (⟨#[109, 61]⟩ : ByteArray) ++ strOfNums (hexS d), (⟨#[116, 61]⟩ : ByteArray) ++ strOfNums (hexS e), (⟨#[120, 61]⟩ : ByteArray) ++ strOfNums (hexS f)] : List ByteArray) (⟨#[59]⟩ : ByteArray) = some (strOfNums (textL a b c d e f)) := by
    rw [pieceK_str 115, pieceK_str 105, pieceK_str 98, pieceK_str 109, pieceK_str 116, pieceK_str 120]
    have e1 : joinL (bytesOf (⟨#[59]⟩ : ByteArray)) [strOfNums (pieceK ((115 : UInt8).toNat : Int) (hexL a)), strOfNums (pieceK ((105 : UInt8).toNat : Int) (hexS b)), strOfNums (pieceK ((98 : UInt8).toNat : Int) (hexL c)), strOfNums (pieceK ((109 : UInt8).toNat : Int) (hexS d)), strOfNums (pieceK ((116 : UInt8).toNat : Int) (hexS e)), strOfNums (pieceK ((120 : UInt8).toNat : Int) (hexS f))] = textL a b c d e f := by
      have b1 : bytesOf (strOfNums (pieceK ((115 : UInt8).toNat : Int) (hexL a))) = pieceK 115 (hexL a) := bytes_str (pieceK_bytes (by decide) (hexL_isX _))
      have b2 : bytesOf (strOfNums (pieceK ((105 : UInt8).toNat : Int) (hexS b))) = pieceK 105 (hexS b) := bytes_str (pieceK_bytes (by decide) (hexS_isX _))
      have b3 : bytesOf (strOfNums (pieceK ((98 : UInt8).toNat : Int) (hexL c))) = pieceK 98 (hexL c) := bytes_str (pieceK_bytes (by decide) (hexL_isX _))
      have b4 : bytesOf (strOfNums (pieceK ((109 : UInt8).toNat : Int) (hexS d))) = pieceK 109 (hexS d) := bytes_str (pieceK_bytes (by decide) (hexS_isX _))
      have b5 : bytesOf (strOfNums (pieceK ((116 : UInt8).toNat : Int) (hexS e))) = pieceK 116 (hexS e) := bytes_str (pieceK_bytes (by decide) (hexS_isX _))
      have b6 : bytesOf (strOfNums (pieceK ((120 : UInt8).toNat : Int) (hexS f))) = pieceK 120 (hexS f) := bytes_str (pieceK_bytes (by decide) (hexS_isX _))
      simp only [joinL]
      rw [b1, b2, b3, b4, b5, b6]
      unfold textL
      simp [bytesOf]
    unfold strings_Join.f
    rw [e1]
    have := textL_len a b c d e f
    exact if_pos ⟨by simp, by omega⟩
  exact Ev.bindc hj (Ev.now _)
theorem wn {i n : Nat} (h : i ≤ n) (hn : n ≤ 100000000) : wrap64 ((i : Int) + 1) = ((i + 1 : Nat) : Int) := by
  rw [w64 (by omega) (by omega)]
  omega
/-! ### the reference's texts -/
theorem refhex_go : ∀ (d i : Nat) (m : Int) (A : List Int), d + i = 16 → A.length = i → 0 ≤ m → m ≤ 18446744073709551615 →
    Ev (fun k => logbookref22_Hex.l0 k m (strOfNums A) i) (strOfNums (hexF d m ++ A))
  | 0, i, m, A, hd, hA, h0, h1 => Ev.step (fun k => logbookref22_Hex.l0.eq_2 _ _ _ _) (Ev.neg (by omega) (Ev.now _))
  | d + 1, i, m, A, hd, hA, h0, h1 => by
    have e1 : Int.tmod m 16 % 256 = m % 16 := by
      rw [Int.tmod_eq_emod_of_nonneg h0]
      omega
    have e2 : IntKind.u64.wrap (Int.tdiv m 16) = m / 16 := by
      rw [Int.tdiv_eq_ediv_of_nonneg h0, wu64 (by omega) (by omega)]
    have ih := refhex_go d (i + 1) (m / 16) (digX (m % 16) :: A) (by omega) (by simp [hA]) (by omega) (by omega)
    have e3 : hexF d (m / 16) ++ digX (m % 16) :: A = hexF (d + 1) m ++ A := by
      rw [hexF, List.append_assoc]
      rfl
    rw [e3] at ih
    have hw := wn (i := i) (n := 16) (by omega) (by omega)
    refine Ev.step (fun k => logbookref22_Hex.l0.eq_2 _ _ _ _) (Ev.pos (by omega) ?_)
    rw [e1, e2, hw]
    refine Ev.both (fun h => Ev.bindc rfl (Ev.pos ?_ ?_)) (fun h => Ev.bindc rfl (Ev.pos ?_ ?_))
    · rw [size_str, size_str]
      simp
      omega
    · rw [str_append]
      have e4 : [(97 + ((m % 16 - 10) % 256)) % 256] ++ A = digX (m % 16) :: A := by
        unfold digX
        rw [if_neg (by omega), show (97 + ((m % 16 - 10) % 256)) % 256 = 87 + m % 16 by omega]
        rfl
      rw [e4]
      exact ih
    · rw [size_str, size_str]
      simp
      omega
    · rw [str_append]
      have e4 : [(48 + m % 16) % 256] ++ A = digX (m % 16) :: A := by
        unfold digX
        rw [if_pos (by omega), show (48 + m % 16) % 256 = 48 + m % 16 by omega]
        rfl
      rw [e4]
      exact ih
theorem refhex_tells (n : Int) (h : U64 n) : Ev (fun k => logbookref22_Hex.f k n) (strOfNums (hexL n)) := by
  have := refhex_go 16 0 n [] (by omega) rfl h.1 h.2
  rw [List.append_nil, ← hexL_F] at this
  exact this
def trim1 : List Int → List Int
  | [] => []
  | [c] => [c]
  | c :: d :: r => if c = 48 then trim1 (d :: r) else c :: d :: r
theorem trim1_eq : ∀ l : List Int, l ≠ [] → trim1 l = if trim0 l = [] then [48] else trim0 l
  | [], h => absurd rfl h
  | [c], _ => by
    unfold trim0
    by_cases h : c = 48
    · subst h
      rfl
    · rw [List.dropWhile_cons_of_neg (by simpa using h), if_neg (by simp)]
      rfl
  | c :: d :: r, _ => by
    have ih := trim1_eq (d :: r) (by simp)
    rw [trim1]
    by_cases h : c = 48
    · subst h
      have e : trim0 (48 :: d :: r) = trim0 (d :: r) := by
        unfold trim0
        rw [List.dropWhile_cons_of_pos (by simp)]
      rw [if_pos rfl, ih, e]
    · have e : trim0 (c :: d :: r) = c :: d :: r := by
        unfold trim0
        rw [List.dropWhile_cons_of_neg (by simpa using h)]
      rw [if_neg h, e, if_neg (by simp)]
theorem refs_go : ∀ (n : Nat) (l : List Int), l.length = n → Bytes l → n ≤ 100 → Ev (fun k => logbookref29_Hex.l0 k (strOfNums l)) (strOfNums (trim1 l))
  | 0, l, hl, hb, hn => by
    obtain rfl := List.eq_nil_of_length_eq_zero hl
    exact Ev.step (fun k => logbookref29_Hex.l0.eq_2 _ _) (Ev.neg (by rw [size_str]; simp) (Ev.now _))
  | 1, [c], hl, hb, hn => Ev.step (fun k => logbookref29_Hex.l0.eq_2 _ _) (Ev.neg (by rw [size_str]; simp) (Ev.now _))
  | n + 2, c :: d :: r, hl, hb, hn => by
    have hs : (strOfNums (c :: d :: r)).size = n + 2 := by rw [size_str]; exact hl
    have h0 : bt (strOfNums (c :: d :: r)) 0 = c := by
      have := bt_get (strOfNums (c :: d :: r)) 0
      rw [bytes_str hb] at this
      exact this
    have hb2 : Bytes (d :: r) := fun x hx => hb x (List.mem_cons_of_mem _ hx)
    have he : (strOfNums (c :: d :: r)).extract 1 (strOfNums (c :: d :: r)).size = strOfNums (d :: r) := by
      apply bytesOf_inj
      rw [bytesOf_extract, bytes_str hb, bytes_str hb2, List.take_of_length_le (by rw [hs]; omega)]
      rfl
    refine Ev.step (fun k => logbookref29_Hex.l0.eq_2 _ _) (Ev.pos (by omega) (Ev.pos (by omega) ?_))
    rw [h0, he, trim1]
    refine Ev.both (fun h => Ev.pos (by omega) ?_) (fun h => ?_)
    · rw [if_pos h]
      exact refs_go (n + 1) (d :: r) (by simpa using hl) hb2 (by omega)
    · rw [if_neg h]
      exact Ev.now _
theorem refs_tells (n : Int) (h : U64 n) : Ev (fun k => logbookref29_Hex.f k n) (strOfNums (hexS n)) := by
  have h1 := refs_go 16 (hexL n) (hexL_len n) (isX_byte (hexL_isX n)) (by decide)
  have hne : hexL n ≠ [] := fun e => by
    have := hexL_len n
    rw [e] at this
    simp at this
  rw [trim1_eq _ hne] at h1
  exact Ev.bind (refhex_tells n h) h1
theorem lit2 (x y : UInt8) : (⟨#[x, y]⟩ : ByteArray) = strOfNums [(x.toNat : Int), (y.toNat : Int)] := by
  show ByteArray.mk #[x, y] = ByteArray.mk #[UInt8.ofNat ((x.toNat : Int)).toNat, UInt8.ofNat ((y.toNat : Int)).toNat]
  rw [ofNat_nat, ofNat_nat]
theorem lit3 (x y z : UInt8) : (⟨#[x, y, z]⟩ : ByteArray) = strOfNums [(x.toNat : Int), (y.toNat : Int), (z.toNat : Int)] := by
  show ByteArray.mk #[x, y, z] = ByteArray.mk #[UInt8.ofNat ((x.toNat : Int)).toNat, UInt8.ofNat ((y.toNat : Int)).toNat, UInt8.ofNat ((z.toNat : Int)).toNat]
  rw [ofNat_nat, ofNat_nat, ofNat_nat]
theorem reftext_tells (a b c d e f : Int) (ha : U64 a) (hb : U64 b) (hc : U64 c) (hd : U64 d) (he : U64 e) (hf : U64 f) : Ev (fun k => logbookref29_Text.f k a b c d e f) (strOfNums (textL a b c d e f)) := by
  have l1 := hexL_len a
  have l2 := hexS_len b
  have l3 := hexL_len c
  have l4 := hexS_len d
  have l5 := hexS_len e
  have l6 := hexS_len f
  refine Ev.bind (refhex_tells a ha) (Ev.pos ?_ (Ev.pos ?_ (Ev.bind (refs_tells b hb) (Ev.pos ?_ (Ev.pos ?_ (Ev.bind (refhex_tells c hc) (Ev.pos ?_ (Ev.pos ?_ (Ev.bind (refs_tells d hd) (Ev.pos ?_ (Ev.pos ?_ (Ev.bind (refs_tells e he) (Ev.pos ?_ (Ev.pos ?_ (Ev.bind (refs_tells f hf) (Ev.pos ?_ (Ev.eq (Ev.now _) ?_)))))))))))))))))
  all_goals first
    | (simp only [size_str]; omega)
    | skip
  rw [lit2 115 61, lit3 59 105 61, lit3 59 98 61, lit3 59 109 61, lit3 59 116 61, lit3 59 120 61]
  simp only [str_append]
  congr 1
  unfold textL pieceK
  simp
/-! ### few, and the law -/
def mnS : List ByteArray → Nat
  | [] => 0
  | x :: r => min x.size 3000 + mnS r
theorem mnS_le : ∀ l : List ByteArray, mnS l ≤ 3000 * l.length
  | [] => Nat.le_refl _
  | x :: r => by
    have := mnS_le r
    rw [mnS, List.length_cons]
    omega
theorem few_go (L : List ByteArray) : ∀ (l : List ByteArray) (i x : Nat), L.drop i = l → i ≤ 70 → x ≤ 3000 * i → ∃ b, Ev (fun k => logbooklaw32_few.l0 k L (x : Int) (i : Int)) b ∧ (b = true → L.length ≤ 70 ∧ x + mnS l ≤ 5000)
  | [], i, x, hd, hi, hx => by
    have hl : L.length ≤ i := List.drop_eq_nil_iff.1 hd
    refine ⟨decide ((x : Int) ≤ 5000), Ev.step (fun k => logbooklaw32_few.l0.eq_2 _ _ _ _) (Ev.neg (by omega) (Ev.pos (by omega) (Ev.now _))), fun h => ?_⟩
    have h := of_decide_eq_true h
    refine ⟨by omega, ?_⟩
    show x + 0 ≤ 5000
    omega
  | y :: r, i, x, hd, hi, hx => by
    have hl : i < L.length := by
      rcases Nat.lt_or_ge i L.length with h | h
      · exact h
      · rw [List.drop_of_length_le h] at hd
        cases hd
    have hy : L[i] = y ∧ L.drop (i + 1) = r := by
      rw [List.drop_eq_getElem_cons hl] at hd
      injection hd with h1 h2
      exact ⟨h1, h2⟩
    have hrd : rdOf ByteArray.empty L (i : Int) = y := by
      unfold rdOf
      rw [Int.toNat_natCast, List.getD_eq_getElem?_getD, List.getElem?_eq_getElem hl, hy.1]
      rfl
    by_cases h70 : i < 70
    · have hw : wrap64 ((x : Int) + (mn ((rdOf ByteArray.empty L (i : Int)).size : Int) 3000)) = ((x + min y.size 3000 : Nat) : Int) := by
        rw [hrd]
        unfold mn wrap64
        split <;> omega
      obtain ⟨b, h1, h2⟩ := few_go L r (i + 1) (x + min y.size 3000) hy.2 (by omega) (by omega)
      refine ⟨b, Ev.step (fun k => logbooklaw32_few.l0.eq_2 _ _ _ _) (Ev.pos (by omega) (Ev.pos (by omega) (Ev.pos (by omega) ?_))), fun h => ?_⟩
      · rw [hw, wi (i := i) (n := 70) (by omega) (by omega)]
        exact h1
      · have := h2 h
        rw [mnS]
        omega
    · refine ⟨false, Ev.step (fun k => logbooklaw32_few.l0.eq_2 _ _ _ _) (Ev.pos (by omega) (Ev.neg (by omega) (Ev.neg (by omega) (Ev.now _)))), fun h => by cases h⟩
theorem szs_le : ∀ l : List ByteArray, (∀ x ∈ l, x.size ≤ 140737488351232) → szs l ≤ 10 * l.length + mnS l ∨ (3000 ≤ mnS l ∧ szs l ≤ 10 * l.length + mnS l + 140737488348232) ∨ 6000 ≤ mnS l
  | [], _ => .inl (Nat.le_refl _)
  | x :: r, h => by
    have hx := h x (by simp)
    have ih := szs_le r (fun y hy => h y (List.mem_cons_of_mem _ hy))
    rw [szs, mnS, List.length_cons]
    omega
theorem awake_tells : Ev (fun k => logbooklaw32_awake.f k) true := by
  obtain ⟨r, h1, _, _⟩ := item_same (⟨#[65, 61, 49]⟩ : ByteArray) (by decide)
  have hr : export_Item.f (⟨#[65, 61, 49]⟩ : ByteArray) = some (⟨#[65, 61, 49, 10]⟩ : ByteArray) := by decide +kernel
  refine Ev.bindc hr (Ev.pos (by decide +kernel) (Ev.bind (Num.decimal_tells 120 (by decide) (by decide)) (Ev.eq (Ev.now _) ?_)))
  decide +kernel
theorem bs_append (a b : ByteArray) : bytesOf (a ++ b) = bytesOf a ++ bytesOf b := bytesOf_append a b
theorem front_eq (t d4 d3 h2 d1 h0 : ByteArray) : eLines (⟨#[]⟩ : ByteArray) (ePairs t d4 d3 h2 d1 h0) =
    (((((((((((((⟨#[95, 95, 67, 85, 82, 83, 79, 82, 61]⟩ : ByteArray) ++ t) ++ (⟨#[10, 95, 95, 82, 69, 65, 76, 84, 73, 77, 69, 95, 84, 73, 77, 69, 83, 84, 65, 77, 80, 61]⟩ : ByteArray)) ++ d4) ++ (⟨#[10, 95, 95, 77, 79, 78, 79, 84, 79, 78, 73, 67, 95, 84, 73, 77, 69, 83, 84, 65, 77, 80, 61]⟩ : ByteArray)) ++ d3) ++ (⟨#[10, 95, 95, 66, 79, 79, 84, 95, 73, 68, 61]⟩ : ByteArray)) ++ h2) ++ (⟨#[10, 95, 95, 83, 69, 81, 78, 85, 77, 61]⟩ : ByteArray)) ++ d1) ++ (⟨#[10, 95, 95, 83, 69, 81, 78, 85, 77, 95, 73, 68, 61]⟩ : ByteArray)) ++ h0) ++ (⟨#[10]⟩ : ByteArray)) := by
  apply bytesOf_inj
  simp only [eLines, ePairs, eLine, bs_append, List.append_assoc]
  simp [bytesOf]
theorem dec_size (n : Int) : (strOfNums (Num.dec n)).size ≤ 20 := by
  rw [size_str]
  exact decF_len 20 n
theorem hex_size (n : Int) : (strOfNums (hexL n)).size = 16 := by
  rw [size_str, hexL_len]
theorem entry_both (a b c d e f : Int) (ha : U64 a) (hb : U64 b) (hc : U64 c) (hd : U64 d) (he : U64 e) (hf : U64 f) (L : List ByteArray) (hL : L.length ≤ 70) (hm : mnS L ≤ 5000) (hz : ∀ x ∈ L, x.size ≤ 140737488351232) :
    ∃ s, Ev (fun k => export_Entry.f k a b c d e f L) s ∧ Ev (fun k => logbookref32_Entry.f k a b c d e f L) s := by
  have ht := textL_len a b c d e f
  have htz : (strOfNums (textL a b c d e f)).size ≤ 120 := by rw [size_str]; omega
  have s4 := dec_size e
  have s3 := dec_size d
  have s2 := hex_size c
  have s1 := dec_size b
  have s0 := hex_size a
  obtain ⟨F, hF⟩ : ∃ F, eLines (⟨#[]⟩ : ByteArray) (ePairs (strOfNums (textL a b c d e f)) (strOfNums (Num.dec e)) (strOfNums (Num.dec d)) (strOfNums (hexL c)) (strOfNums (Num.dec b)) (strOfNums (hexL a))) = F := ⟨_, rfl⟩
  have hF2 := hF
  rw [front_eq] at hF2
  have hFz : F.size ≤ 600 := by
    rw [← hF2]
    simp only [ByteArray.size_append]
    show 9 + _ + 22 + _ + 23 + _ + 11 + _ + 10 + _ + 13 + _ + 1 ≤ 600
    omega
  have hs := szs_le L hz
  obtain ⟨r, i1, i2, i3⟩ := items_go L hL hz L 0 F rfl (by omega)
  refine ⟨r ++ (⟨#[10]⟩ : ByteArray), ?_, ?_⟩
  · refine Ev.bind (text_tells a b c d e f ha hb hc hd he hf) (Ev.bind (Num.decimal_tells e he.1 he.2) (Ev.bind (Num.decimal_tells d hd.1 hd.2) (Ev.bindc (hex_f c hc) (Ev.bind (Num.decimal_tells b hb.1 hb.2) (Ev.bindc (hex_f a ha) (Ev.pos ?_ ?_))))))
    · intro p hp
      simp only [ePairs, List.mem_cons, List.not_mem_nil, or_false] at hp
      rcases hp with rfl | rfl | rfl | rfl | rfl | rfl
      · exact Nat.le_trans htz (by decide)
      · exact Nat.le_trans s4 (by decide)
      · exact Nat.le_trans s3 (by decide)
      · show (strOfNums (hexL c)).size ≤ 1000
        omega
      · exact Nat.le_trans s1 (by decide)
      · show (strOfNums (hexL a)).size ≤ 1000
        omega
    · rw [hF]
      exact Ev.bind ⟨0, fun k _ => i1 k⟩ (Ev.pos (by omega) (Ev.now _))
  · refine Ev.bind (reftext_tells a b c d e f ha hb hc hd he hf) (Ev.pos (by omega) (Ev.pos (by omega) (Ev.bind (Num.ref_decimal e he.1 he.2) (Ev.pos (by omega) (Ev.pos (by omega) (Ev.bind (Num.ref_decimal d hd.1 hd.2) (Ev.pos (by omega) (Ev.pos (by omega) (Ev.bind (refhex_tells c hc) (Ev.pos (by omega) (Ev.pos (by omega) (Ev.bind (Num.ref_decimal b hb.1 hb.2) (Ev.pos (by omega) (Ev.pos (by omega) (Ev.bind (refhex_tells a ha) (Ev.pos (by omega) (Ev.pos (by omega) ?_)))))))))))))))))
    rw [hF2]
    exact i2
theorem law_go (L : List ByteArray) (hz : ∀ x ∈ L, x.size ≤ 140737488351232) (a b c d e f : Int) (ha : U64 a) (hb : U64 b) (hc : U64 c) (hd : U64 d) (he : U64 e) (hf : U64 f) (hL : L.length ≤ 70) (hm : mnS L ≤ 5000) : ∀ (n i : Nat), n + i = L.length →
    Ev (fun k => logbooklaw32_ExportWrites.l0 k L (i : Int) a b c d e f) true
  | 0, i, hn => by
    obtain ⟨s, h1, h2⟩ := entry_both a b c d e f ha hb hc hd he hf L hL hm hz
    refine Ev.step (fun k => logbooklaw32_ExportWrites.l0.eq_2 _ _ _ _ _ _ _ _ _) (Ev.neg (by omega) (Ev.bindc rfl (Ev.bind h1 (Ev.bind h2 (Ev.pos rfl (Ev.bind awake_tells (Ev.now _)))))))
  | n + 1, i, hn => by
    have hi : i < L.length := by omega
    have hrd : rdOf ByteArray.empty L (i : Int) = L[i] := by
      unfold rdOf
      rw [Int.toNat_natCast, List.getD_eq_getElem?_getD, List.getElem?_eq_getElem hi]
      rfl
    obtain ⟨t, h1, h2, h3⟩ := item_same L[i] (hz _ (List.getElem_mem hi))
    have ih := law_go L hz a b c d e f ha hb hc hd he hf hL hm n (i + 1) (by omega)
    refine Ev.step (fun k => logbooklaw32_ExportWrites.l0.eq_2 _ _ _ _ _ _ _ _ _) (Ev.pos (by omega) (Ev.pos (by omega) ?_))
    rw [hrd]
    refine Ev.bindc h1 (Ev.bind h2 (Ev.pos rfl ?_))
    rw [wi (i := i) (n := 70) (by omega) (by omega)]
    exact ih
theorem law (a b c d e f : Int) (ha : U64 a) (hb : U64 b) (hc : U64 c) (hd : U64 d) (he : U64 e) (hf : U64 f) (L : List ByteArray) (hz : ∀ x ∈ L, x.size ≤ 140737488351232) : ∃ k, logbooklaw32_ExportWrites.f k a b c d e f L = some true := by
  refine Ev.at ?_
  obtain ⟨g, h1, h2⟩ := few_go L L 0 0 rfl (by omega) (by omega)
  refine Ev.bind h1 ?_
  cases g
  · exact Ev.neg (by decide) (Ev.bind awake_tells (Ev.now _))
  obtain ⟨hL, hm⟩ := h2 rfl
  exact Ev.pos rfl (law_go L hz a b c d e f ha hb hc hd he hf hL (by omega) L.length 0 rfl)
end EW
end Go.Proofs.YtbbegchdlkmebaaDoor.Pure
namespace Go.Proofs.YtbbegchdlkmebaaDoor.PureExportWrites
set_option linter.unusedVariables false
open Go.Proofs.YtbbegchdlkmebaaDoor.PExportWrites
theorem ExportWrites (y0 : Int × Int × Int × Int × Int × Int) (y1 : List (ByteArray))
    (w0 : ((Lit.int .u64 y0.1).wf = true) ∧ ((Lit.int .u64 y0.2.1).wf = true) ∧ ((Lit.int .u64 y0.2.2.1).wf = true) ∧ ((Lit.int .u64 y0.2.2.2.1).wf = true) ∧ ((Lit.int .u64 y0.2.2.2.2.1).wf = true) ∧ ((Lit.int .u64 y0.2.2.2.2.2).wf = true))
    (w1 : (y1.length ≤ maxLen ∧ y1.length * 16 ≤ 140737488351232 ∧ ∀ x ∈ y1, x.size ≤ 140737488351232)) :
    ∃ k, logbooklaw32_ExportWrites.f k y0.1 y0.2.1 y0.2.2.1 y0.2.2.2.1 y0.2.2.2.2.1 y0.2.2.2.2.2 y1 = some true :=
  Pure.EW.law _ _ _ _ _ _ (Evs.wf_u64 w0.1) (Evs.wf_u64 w0.2.1) (Evs.wf_u64 w0.2.2.1) (Evs.wf_u64 w0.2.2.2.1) (Evs.wf_u64 w0.2.2.2.2.1) (Evs.wf_u64 w0.2.2.2.2.2) y1 w1.2.2
end Go.Proofs.YtbbegchdlkmebaaDoor.PureExportWrites
