/- All entries of bytes, as the program and as the reference tell them: in plain Lean. -/
import Derived.Test.YtldoaommikclbaaScanAllScanEntries
import Derived.Test.YtldoaommikclbaaEvs
namespace Go.Proofs.Ytldoaommikclbaa.SBScanEntries
open Go.RowKit Go.Proofs.Ytldoaommikclbaa.PScanEntries Go.Proofs.YtldoaommikclbaaW.PrintWords Go.Proofs.YtldoaommikclbaaW.PrintLast Go.Proofs.YtldoaommikclbaaW.PrintMore Go.Proofs.Ytldoaommikclbaa.Evs Go.Proofs.Ytldoaommikclbaa.Conv
set_option linter.unusedVariables false
set_option linter.unusedSimpArgs false
/-! ### entries -/
def rowOk (B : List Int) (r : ORow) : Prop := (r.2.1 = 3 → r.2.2.1.length = 5) ∧ wfWords r.2.2.2.2.1 ∧ r.2.2.2.2.1.length ≤ 3000 ∧ 0 ≤ r.1 ∧ r.1 ≤ (B.length : Int)
theorem dec_ok (B : List Int) (hb : Bytes B) (hl : B.length ≤ 3000) (a : Int) (h : (decS B a).2.2.2.2.2 = true) : rowOk B (a, (decS B a).1, (decS B a).2.1, (decS B a).2.2.1, (decS B a).2.2.2.1, (decS B a).2.2.2.2.1) := by
  have he := dec_end h
  unfold decS at h
  by_cases g : 0 ≤ a ∧ okHead B a.toNat ∧ okRest B a.toNat
  case neg =>
    rw [if_neg g] at h
    cases h
  have e : decS B a = (kdS B a.toNat, wsS B a.toNat, rawS B a.toNat, itsS B a.toNat, ((a.toNat + al8 (sS B a.toNat) : Nat) : Int), true) := if_pos g
  rw [e] at he ⊢
  obtain ⟨g0, ⟨q1, q2, q3, q4, q5, q6⟩, o1, _⟩ := g
  have hw := wn_in (kdS B a.toNat)
  have hs : sS B a.toNat = 16 + 8 * nS B a.toNat + restS B a.toNat := by unfold restS sS nS; omega
  have hsz : szS B a.toNat = ((sS B a.toNat : Nat) : Int) := by unfold sS; omega
  refine ⟨fun h3 => ?_, ?_, ?_, by omega, by dsimp only at he ⊢; omega⟩
  · show (wsS B a.toNat).length = 5
    rw [show (wsS B a.toNat).length = nS B a.toNat from wordsAt_length _ _ _]
    unfold nS wn
    dsimp only at h3
    rw [h3]
    rfl
  · show wfWords (itsS B a.toNat)
    unfold itsS
    split
    · exact fun x hx => by cases hx
    · exact wordsAt_wf B hb _ _ (by omega)
  · show (itsS B a.toNat).length ≤ 3000
    unfold itsS
    split
    · simp
    · rw [wordsAt_length]
      omega
theorem rows_ok (B : List Int) (hb : Bytes B) (hl : B.length ≤ 3000) (lim : Int) : ∀ (m : Nat) (a : Int), ∀ r ∈ rowsS B lim m a, rowOk B r
  | 0, _ => fun r hr => by cases hr
  | m + 1, a => fun r hr => by
      unfold rowsS at hr
      split at hr
      · rename_i h
        rcases List.mem_cons.1 hr with rfl | hr
        · exact dec_ok B hb hl a h.2.1
        · exact rows_ok B hb hl lim m _ r hr
      · cases hr
theorem rows_len (B : List Int) (lim : Int) : ∀ (m : Nat) (a : Int), (rowsS B lim m a).length ≤ m
  | 0, _ => by simp [rowsS]
  | m + 1, a => by
      unfold rowsS
      split
      · rw [List.length_cons]
        have := rows_len B lim m (decS B a).2.2.2.2.1
        omega
      · simp
def recS (r : ORow) (ts : List ByteArray) : S57 := ⟨rd r.2.2.1 0, rd r.2.2.1 1, rd r.2.2.1 2, rd r.2.2.1 3, ts⟩
def entS (B : List Int) (frm : Int) : List ORow → List S57 → List S57 × Bool
  | [], acc => (acc, true)
  | r :: t, acc => if r.2.1 = 3 then (match itemsS B frm r.1 r.2.2.2.2.1 with | some ts => entS B frm t (acc ++ [recS r ts]) | none => ([], false)) else entS B frm t acc
theorem entL_tells (B : List Int) (hb : Bytes B) (hl : B.length ≤ 3000) (frm : Int) (hf : -9223372036854775808 ≤ frm ∧ frm ≤ 9223372036854775807) : ∀ (rows : List ORow) (acc : List S57), (∀ r ∈ rows, rowOk B r) → acc.length + rows.length ≤ 10000 → Ev (fun k => entL k B frm rows acc) (entS B frm rows acc)
  | [], acc, _, _ => Ev.now _
  | r :: t, acc, hr, hn => by
      obtain ⟨w1, w2, w3, w4, w5⟩ := hr r (by simp)
      have ht : ∀ r' ∈ t, rowOk B r' := fun r' h' => hr r' (by simp [h'])
      rw [List.length_cons] at hn
      unfold entS
      by_cases h3 : r.2.1 = 3
      case neg =>
        rw [if_neg h3]
        exact Ev.neg h3 (entL_tells B hb hl frm hf t acc ht (by omega))
      rw [if_pos h3]
      refine Ev.pos h3 (Ev.bind (items_tells B hb hl frm r.1 hf (by omega) r.2.1 r.2.2.1 r.2.2.2.1 r.2.2.2.2.1 w2 (by omega)) ?_)
      cases hi : itemsS B frm r.1 r.2.2.2.2.1 with
      | none => exact Ev.neg (by simp [tellIts]) (Ev.now _)
      | some ts =>
        have ih := entL_tells B hb hl frm hf t (acc ++ [recS r ts]) ht (by rw [List.length_append, List.length_singleton]; omega)
        exact Ev.pos (by simp [tellIts]) (Ev.pos (by rw [w1 h3]; omega) ih)
theorem entries_tells (B : List Int) (hb : Bytes B) (hl : B.length ≤ 3000) (frm lim : Int) (hf : -9223372036854775808 ≤ frm ∧ frm ≤ 9223372036854775807) : Ev (fun k => scan_Entries.f k B frm lim) (entS B frm (allS B frm lim) []) :=
  Ev.bind (all_tells B hb hl frm lim hf) (entL_tells B hb hl frm hf _ [] (rows_ok B hb hl lim _ _) (by have := rows_len B lim (B.length + 2) frm; unfold allS; simp only [List.length_nil]; omega))
theorem rdT_at {l : List ORow} {i : Nat} {r : ORow} {t : List ORow} (h : l.drop i = r :: t) : rd_T33 (l.map toRow) (i : Int) = toRow r := by
  have hi : i < l.length := by
    apply Nat.lt_of_not_le
    intro g
    rw [List.drop_of_length_le g] at h
    cases h
  rw [List.drop_eq_getElem_cons hi] at h
  injection h with h1 _
  unfold rd_T33
  rw [Int.toNat_natCast, List.getD_eq_getElem?_getD, List.getElem?_map, List.getElem?_eq_getElem hi, h1]
  rfl
theorem refent_go (B : List Int) (hb : Bytes B) (hl : B.length ≤ 3000) (frm : Int) (hf : -9223372036854775808 ≤ frm ∧ frm ≤ 9223372036854775807) (l : List ORow) (hr : ∀ r ∈ l, rowOk B r) (hll : l.length ≤ 5000) : ∀ (t : List ORow) (i : Nat) (acc : List S57), l.drop i = t → i ≤ l.length → acc.length ≤ i → Ev (fun k => logbookref17_Entries.l0 k B frm acc (l.map toRow) (i : Int)) (entS B frm t acc)
  | [], i, acc, hd, hi, hc => by
      have he : i = l.length := by
        have := congrArg List.length hd
        rw [List.length_drop, List.length_nil] at this
        omega
      refine Ev.step (fun k => logbookref17_Entries.l0.eq_2 _ _ _ _ _ _) (Ev.neg (by rw [List.length_map]; omega) (Ev.now _))
  | r :: t, i, acc, hd, hi, hc => by
      have hlt : i < l.length := by
        have := congrArg List.length hd
        rw [List.length_drop, List.length_cons] at this
        omega
      have hmem : r ∈ l := List.mem_of_mem_drop (i := i) (by rw [hd]; simp)
      obtain ⟨w1, w2, w3, w4, w5⟩ := hr r hmem
      have hd2 : l.drop (i + 1) = t := by
        rw [← List.drop_drop, hd]
        rfl
      have hx := rdT_at hd
      refine Ev.step (fun k => logbookref17_Entries.l0.eq_2 _ _ _ _ _ _) (Ev.pos (by rw [List.length_map]; omega) (Ev.pos (by omega) ?_))
      rw [hx]
      unfold entS
      have hw : wrap64 ((i : Int) + 1) = ((i + 1 : Nat) : Int) := by unfold wrap64; omega
      by_cases h3 : r.2.1 = 3
      case neg =>
        rw [if_neg h3]
        refine Ev.neg h3 ?_
        rw [hw]
        exact refent_go B hb hl frm hf l hr hll t (i + 1) acc hd2 (by omega) (by omega)
      rw [if_pos h3]
      refine Ev.pos h3 (Ev.bind (refitems_tells B hb hl frm r.1 hf (by omega) r.2.1 r.2.2.1 r.2.2.2.1 r.2.2.2.2.1 w2 (by omega)) ?_)
      have w1' : ((toRow r).f2.f1.length : Int) = 5 := by
        show (r.2.2.1.length : Int) = 5
        rw [w1 h3]
        rfl
      cases hi2 : itemsS B frm r.1 r.2.2.2.2.1 with
      | none => exact Ev.neg (by simp [tellIts]) (Ev.now _)
      | some ts =>
        refine Ev.pos (by simp [tellIts]) (Ev.pos (by omega) (Ev.pos (by omega) (Ev.pos (by omega) (Ev.pos (by omega) (Ev.pos (by omega) ?_)))))
        rw [hw]
        exact refent_go B hb hl frm hf l hr hll t (i + 1) (acc ++ [recS r ts]) hd2 (by omega) (by rw [List.length_append, List.length_singleton]; omega)
theorem refentries_tells (B : List Int) (hb : Bytes B) (hl : B.length ≤ 3000) (frm lim : Int) (hf : -9223372036854775808 ≤ frm ∧ frm ≤ 9223372036854775807) : Ev (fun k => logbookref17_Entries.f k B frm lim) (entS B frm (allS B frm lim) []) :=
  Ev.bind (refall_tells B hb hl frm lim hf) (refent_go B hb hl frm hf (allS B frm lim) (rows_ok B hb hl lim _ _) (by have := rows_len B lim (B.length + 2) frm; unfold allS; omega) _ 0 [] (List.drop_zero) (Nat.zero_le _) (Nat.le_refl _))
end Go.Proofs.Ytldoaommikclbaa.SBScanEntries
