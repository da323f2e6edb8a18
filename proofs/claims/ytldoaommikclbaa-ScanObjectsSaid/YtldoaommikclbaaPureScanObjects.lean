/- The law ScanObjects in plain Lean. -/
import Derived.Test.YtldoaommikclbaaScanAwkScanObjects
import Derived.Test.YtldoaommikclbaaEvs
namespace Go.Proofs.Ytldoaommikclbaa.SBScanObjects
open Go.RowKit Go.Proofs.Ytldoaommikclbaa.PScanObjects Go.Proofs.YtldoaommikclbaaW.PrintWords Go.Proofs.YtldoaommikclbaaW.PrintLast Go.Proofs.YtldoaommikclbaaW.PrintMore Go.Proofs.Ytldoaommikclbaa.Evs Go.Proofs.Ytldoaommikclbaa.Conv
set_option linter.unusedVariables false
set_option linter.unusedSimpArgs false
/-! ### the law ScanObjects -/
theorem i1 (i n : Nat) (h : i < n) (hn : n ≤ 1000000) : wrap64 ((i : Int) + 1) = ((i + 1 : Nat) : Int) := by unfold wrap64; omega
theorem dec_ws (B : List Int) (a : Int) : (decS B a).2.1.length ≤ 100 := by
  unfold decS
  by_cases g : 0 ≤ a ∧ okHead B a.toNat ∧ okRest B a.toNat
  · rw [if_pos g]
    show (wsS B a.toNat).length ≤ 100
    rw [show (wsS B a.toNat).length = nS B a.toNat from wordsAt_length _ _ _]
    have := wn_in (kdS B a.toNat)
    unfold nS
    omega
  · rw [if_neg g]
    exact Nat.zero_le _
theorem rows_ws (B : List Int) (lim : Int) : ∀ (m : Nat) (a : Int), ∀ r ∈ rowsS B lim m a, r.2.2.1.length ≤ 100
  | 0, _ => fun r hr => by cases hr
  | m + 1, a => fun r hr => by
      unfold rowsS at hr
      split at hr
      · rcases List.mem_cons.1 hr with rfl | hr
        · exact dec_ws B a
        · exact rows_ws B lim m _ r hr
      · cases hr
theorem wds_go (l : List Int) (hl : l.length ≤ 1000000) : ∀ (d i : Nat), d + i = l.length → Ev (fun k => logbookref01_Words.l0 k l l i) true
  | 0, i, hd => Ev.step (fun k => logbookref01_Words.l0.eq_2 _ _ _ _) (Ev.neg (by omega) (Ev.now _))
  | d + 1, i, hd => by
    refine Ev.step (fun k => logbookref01_Words.l0.eq_2 _ _ _ _) (Ev.pos (by omega) (Ev.pos (by omega) (Ev.pos (by omega) (Ev.pos rfl ?_))))
    rw [i1 i l.length (by omega) hl]
    exact wds_go l hl d (i + 1) (by omega)
theorem wds_tells (l : List Int) (hl : l.length ≤ 1000000) : Ev (fun k => logbookref01_Words.f k l l) true := Ev.pos rfl (wds_go l hl l.length 0 (by omega))
theorem same_tells (kind : Int) (ws raw its : List Int) (h1 : ws.length ≤ 1000000) (h2 : its.length ≤ 1000000) : Ev (fun k => logbookref09_Same.f k kind ws raw its kind ws raw its) true := by
  refine Ev.pos rfl (Ev.bind (wds_tells ws h1) (Ev.pos rfl (Ev.bindc (a := true) ?_ (Ev.pos rfl (Ev.bind (wds_tells its h2) (Ev.now _))))))
  unfold logbookref01_Same.f
  simp
/-- the places of one kind -/
def plS (kind : Int) : List ORow → List Int
  | [] => []
  | r :: t => if r.2.1 = kind then r.1 :: plS kind t else plS kind t
theorem plS_len (kind : Int) : ∀ rows : List ORow, (plS kind rows).length ≤ rows.length
  | [] => Nat.le_refl _
  | r :: t => by
      have := plS_len kind t
      unfold plS
      split <;> simp only [List.length_cons] <;> omega
theorem places_go (kind : Int) : ∀ (rows : List ORow) (acc : List Int), acc.length + rows.length ≤ 1000000 → placesL kind rows acc = some (acc ++ plS kind rows)
  | [], acc, _ => by simp [placesL, plS]
  | r :: t, acc, h => by
      rw [List.length_cons] at h
      unfold placesL plS
      by_cases hk : r.2.1 = kind
      · rw [if_pos hk, if_pos hk, if_pos (by omega), places_go kind t _ (by rw [List.length_append, List.length_singleton]; omega), List.append_assoc]
        rfl
      · rw [if_neg hk, if_neg hk, places_go kind t _ (by omega)]
theorem places_tells (B : List Int) (hb : Bytes B) (hl : B.length ≤ 3000) (a lim kind : Int) (ha : -9223372036854775808 ≤ a ∧ a ≤ 9223372036854775807) : Ev (fun k => scan_Places.f k B a lim kind) (plS kind (allS B a lim)) := by
  refine Ev.bind (all_tells B hb hl a lim ha) (Ev.fix ?_)
  rw [places_go kind (allS B a lim) [] (by have := rows_count B lim (B.length + 2) a; unfold allS; simp only [List.length_nil]; omega), List.nil_append]
theorem rdT_row {l : List ORow} {i : Nat} {r : ORow} {t : List ORow} (h : l.drop i = r :: t) : rd_T33 (l.map toRow) (i : Int) = toRow r := by
  have hi : i < l.length := by
    apply Nat.lt_of_not_le
    intro g
    rw [List.drop_of_length_le g] at h
    cases h
  rw [List.drop_eq_getElem_cons hi] at h
  injection h with h1 _
  unfold rd_T33
  rw [Int.toNat_natCast, List.getD_eq_getElem?_getD, List.getElem?_map, List.getElem?_eq_getElem hi, h1]
  rfl
theorem rd_of_drop {l : List Int} {i : Nat} {r : Int} {t : List Int} (h : l.drop i = r :: t) : i < l.length ∧ rd l (i : Int) = r ∧ l.drop (i + 1) = t := by
  have hi : i < l.length := by
    apply Nat.lt_of_not_le
    intro g
    rw [List.drop_of_length_le g] at h
    cases h
  rw [List.drop_eq_getElem_cons hi] at h
  injection h with h1 h2
  refine ⟨hi, ?_, h2⟩
  unfold rd
  rw [Int.toNat_natCast, List.getD_eq_getElem?_getD, List.getElem?_eq_getElem hi, ← h1]
  rfl
theorem obj_go (kind : Int) (l : List ORow) (p : List Int) (hll : l.length ≤ 10000) (hpl : p.length ≤ 10000) (hr : ∀ r ∈ l, r.2.2.1.length ≤ 100 ∧ r.2.2.2.2.1.length ≤ 3000) :
    ∀ (t : List ORow) (i n : Nat), l.drop i = t → i ≤ l.length → n ≤ p.length → p.drop n = plS kind t → Ev (fun k => logbooklaw17_ScanObjects.l0 k kind (l.map toRow) (l.map toRow) p (n : Int) (i : Int)) true
  | [], i, n, hd, hi, hn, hp => by
      have he : i = l.length := by
        have := congrArg List.length hd
        rw [List.length_drop, List.length_nil] at this
        omega
      have hq : n = p.length := by
        have := congrArg List.length hp
        rw [List.length_drop] at this
        simp only [plS, List.length_nil] at this
        omega
      exact Ev.step (fun k => logbooklaw17_ScanObjects.l0.eq_2 _ _ _ _ _ _ _) (Ev.neg (by rw [List.length_map]; omega) (Ev.pos (by omega) (Ev.bind awake_tells (Ev.now _))))
  | r :: t, i, n, hd, hi, hn, hp => by
      have hlt : i < l.length := by
        have := congrArg List.length hd
        rw [List.length_drop, List.length_cons] at this
        omega
      have hmem : r ∈ l := List.mem_of_mem_drop (i := i) (by rw [hd]; simp)
      obtain ⟨g1, g2⟩ := hr r hmem
      have hd2 : l.drop (i + 1) = t := by
        rw [← List.drop_drop, hd]
        rfl
      have hx := rdT_row hd
      refine Ev.step (fun k => logbooklaw17_ScanObjects.l0.eq_2 _ _ _ _ _ _ _) (Ev.pos (by rw [List.length_map]; omega) (Ev.pos (by omega) (Ev.pos (by rw [List.length_map]; omega) (Ev.pos rfl (Ev.pos rfl ?_)))))
      rw [hx]
      refine Ev.bind (same_tells r.2.1 r.2.2.1 r.2.2.2.1 r.2.2.2.2.1 (by omega) (by omega)) ?_
      refine Ev.step (fun k => logbooklaw17_ScanObjects.j2.eq_2 _ _ _ _ _ _ _ _) (Ev.neg (by decide) (Ev.pos (by omega) (Ev.pos (by rw [List.length_map]; omega) ?_)))
      rw [hx, i1 i 10000 (by omega) (by omega)]
      by_cases hk : r.2.1 = kind
      · refine Ev.pos hk ?_
        have hp2 : p.drop n = r.1 :: plS kind t := by rw [hp, plS, if_pos hk]
        obtain ⟨k1, k2, k3⟩ := rd_of_drop hp2
        refine Ev.neg (by omega) (Ev.pos (by omega) (Ev.pos (by omega) (Ev.pos k2 ?_)))
        rw [i1 n 10001 (by omega) (by omega)]
        exact obj_go kind l p hll hpl hr t (i + 1) (n + 1) hd2 (by omega) (by omega) k3
      · refine Ev.neg hk ?_
        have hp2 : p.drop n = plS kind t := by rw [hp, plS, if_neg hk]
        exact obj_go kind l p hll hpl hr t (i + 1) n hd2 (by omega) hn hp2
theorem endS_last : ∀ (rows : List ORow) (e : Int) (h : rows ≠ []), endS rows e = (rows.getLast h).2.2.2.2.2
  | [r], e, _ => rfl
  | r :: q :: t, e, _ => by
      rw [endS, endS_last (q :: t) _ (List.cons_ne_nil _ _), List.getLast_cons (List.cons_ne_nil q t)]
theorem drop_last : ∀ (rows : List ORow) (h : rows ≠ []), rows.drop (rows.length - 1) = [rows.getLast h]
  | [r], _ => rfl
  | r :: q :: t, _ => by
      rw [List.getLast_cons (List.cons_ne_nil q t), ← drop_last (q :: t) (List.cons_ne_nil q t)]
      show (r :: q :: t).drop (t.length + 1) = (q :: t).drop t.length
      rfl
theorem refwhole_tells (B : List Int) (hb : Bytes B) (hl : B.length ≤ 3000) (a lim : Int) (ha : -9223372036854775808 ≤ a ∧ a ≤ 9223372036854775807) : Ev (fun k => logbookref17_Whole.f k B a lim) (wholeS B a lim) := by
  refine Ev.bind (refall_tells B hb hl a lim ha) ?_
  have hc : (allS B a lim).length ≤ B.length + 2 := rows_count B lim (B.length + 2) a
  unfold wholeS
  generalize allS B a lim = rows at hc
  have hend : rows ≠ [] → (rd_T33 (rows.map toRow) (wrap64 (((rows.map toRow).length : Int) - 1))).f1 = endS rows a := by
    intro h
    have hpos := List.length_pos_iff.2 h
    rw [List.length_map, show wrap64 ((rows.length : Int) - 1) = ((rows.length - 1 : Nat) : Int) by unfold wrap64; omega, endS_last rows a h]
    have hd : rows.drop (rows.length - 1) = [rows.getLast h] := drop_last rows h
    rw [rdT_row hd]
    rfl
  by_cases h0 : rows = []
  · subst h0
    refine Ev.neg (by simp) ?_
    by_cases h1 : a ≥ 0
    · refine Ev.pos h1 ?_
      by_cases h2 : lim ≤ (B.length : Int)
      · exact Ev.pos h2 (Ev.eq (Ev.now _) (by simp [endS, h1, h2]))
      · exact Ev.neg h2 (Ev.eq (Ev.now _) (by simp [h2]))
    · exact Ev.neg h1 (Ev.eq (Ev.now _) (by simp [h1]))
  · have hpos := List.length_pos_iff.2 h0
    have hw : wrap64 (((rows.map toRow).length : Int) - 1) = (rows.length : Int) - 1 := by rw [List.length_map]; unfold wrap64; omega
    refine Ev.pos (by rw [List.length_map]; omega) (Ev.pos (by omega) (Ev.pos (by rw [hw, List.length_map]; omega) ?_))
    rw [hend h0]
    by_cases h1 : a ≥ 0
    · refine Ev.pos h1 ?_
      by_cases h2 : lim ≤ (B.length : Int)
      · exact Ev.pos h2 (Ev.eq (Ev.now _) (by simp [h1, h2]))
      · exact Ev.neg h2 (Ev.eq (Ev.now _) (by simp [h2]))
    · exact Ev.neg h1 (Ev.eq (Ev.now _) (by simp [h1]))
theorem law (l0 : List Int) (a1 a2 a3 : Int) (hb : Bytes l0) (h1 : -9223372036854775808 ≤ a1 ∧ a1 ≤ 9223372036854775807) : ∃ k, logbooklaw17_ScanObjects.f k l0 a1 a2 a3 = some true := by
  refine Ev.at ?_
  refine Ev.both (fun _ => Ev.bind awake_tells (Ev.now _)) (fun hl => ?_)
  have hB : l0.length ≤ 3000 := by omega
  have hc : (allS l0 a1 a2).length ≤ l0.length + 2 := rows_count l0 a2 (l0.length + 2) a1
  have hs := rows_sz l0 hB a2 (l0.length + 2) a1
  have hw := rows_ws l0 a2 (l0.length + 2) a1
  have hpl := plS_len a3 (allS l0 a1 a2)
  refine Ev.bind (rows_tells l0 hb hB a1 a2 h1) (Ev.bind (refall_tells l0 hb hB a1 a2 h1) (Ev.pos rfl (Ev.bind (whole_tells l0 hb hB a1 a2 h1) (Ev.bind (refwhole_tells l0 hb hB a1 a2 h1) ?_))))
  refine Ev.step (fun k => logbooklaw17_ScanObjects.j0.eq_2 _ _ _ _ _ _ _ _) (Ev.neg (by simp) (Ev.bind (places_tells l0 hb hB a1 a2 a3 h1) ?_))
  exact obj_go a3 (allS l0 a1 a2) (plS a3 (allS l0 a1 a2)) (by omega) (by omega) (fun r hr => ⟨hw r hr, (hs r hr).2.1⟩) (allS l0 a1 a2) 0 0 List.drop_zero (Nat.zero_le _) (Nat.zero_le _) List.drop_zero
end Go.Proofs.Ytldoaommikclbaa.SBScanObjects
namespace Go.Proofs.Ytldoaommikclbaa.Pure
open Go.RowKit Go.Proofs.Ytldoaommikclbaa.PScanObjects
theorem ScanObjects : logbooklaw17_ScanObjects.Pure := fun l0 a1 a2 a3 _ _ w0 w1 _ _ =>
  SBScanObjects.law l0 a1 a2 a3 (fun x hx => Evs.wf_u8 (w0 x hx)) (Evs.wf_i64 w1)
end Go.Proofs.Ytldoaommikclbaa.Pure
