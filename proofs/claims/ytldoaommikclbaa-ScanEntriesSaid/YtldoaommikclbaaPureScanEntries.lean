/- The law ScanEntries in plain Lean. -/
import Derived.Test.YtldoaommikclbaaScanEntScanEntries
import Derived.Test.YtldoaommikclbaaScanAwkScanEntries
import Derived.Test.YtldoaommikclbaaEvs
namespace Go.Proofs.Ytldoaommikclbaa.SBScanEntries
open Go.RowKit Go.Proofs.Ytldoaommikclbaa.PScanEntries Go.Proofs.YtldoaommikclbaaW.PrintWords Go.Proofs.YtldoaommikclbaaW.PrintLast Go.Proofs.YtldoaommikclbaaW.PrintMore Go.Proofs.Ytldoaommikclbaa.Evs Go.Proofs.Ytldoaommikclbaa.Conv
set_option linter.unusedVariables false
set_option linter.unusedSimpArgs false
/-! ### the law ScanEntries -/
theorem i1 (i n : Nat) (h : i < n) (hn : n ≤ 1000000) : wrap64 ((i : Int) + 1) = ((i + 1 : Nat) : Int) := by unfold wrap64; omega
theorem stexts_go (l : List ByteArray) (hl : l.length ≤ 1000000) : ∀ (d i : Nat), d + i = l.length → Ev (fun k => logbookref04_Texts.l0 k l l i) true
  | 0, i, hd => Ev.step (fun k => logbookref04_Texts.l0.eq_2 _ _ _ _) (Ev.neg (by omega) (Ev.now _))
  | d + 1, i, hd => by
    refine Ev.step (fun k => logbookref04_Texts.l0.eq_2 _ _ _ _) (Ev.pos (by omega) (Ev.pos (by omega) (Ev.pos (by omega) (Ev.pos rfl ?_))))
    rw [i1 i l.length (by omega) hl]
    exact stexts_go l hl d (i + 1) (by omega)
theorem stexts_tells (l : List ByteArray) (hl : l.length ≤ 1000000) : Ev (fun k => logbookref04_Texts.f k l l) true := Ev.pos rfl (stexts_go l hl l.length 0 (by omega))
theorem rdT57_mem (l : List S57) (i : Nat) (h : i < l.length) : rd_T57 l (i : Int) ∈ l := by
  unfold rd_T57
  rw [Int.toNat_natCast, List.getD_eq_getElem?_getD, List.getElem?_eq_getElem h]
  exact List.getElem_mem h
theorem same_go (l : List S57) (hl : l.length ≤ 1000000) (hx : ∀ x ∈ l, x.f4.length ≤ 1000000) : ∀ (d i : Nat), d + i = l.length → Ev (fun k => logbookref16_All.l0 k l l i) true
  | 0, i, hd => Ev.step (fun k => logbookref16_All.l0.eq_2 _ _ _ _) (Ev.neg (by omega) (Ev.now _))
  | d + 1, i, hd => by
    refine Ev.step (fun k => logbookref16_All.l0.eq_2 _ _ _ _) (Ev.pos (by omega) (Ev.pos (by omega) (Ev.pos (by omega) ?_)))
    have h := hx _ (rdT57_mem l i (by omega))
    refine Ev.bind (Ev.pos rfl (Ev.pos rfl (Ev.pos rfl (Ev.pos rfl (Ev.bind (stexts_tells _ h) (Ev.now _)))))) (Ev.pos rfl ?_)
    rw [i1 i l.length (by omega) hl]
    exact same_go l hl hx d (i + 1) (by omega)
theorem same_tells (l : List S57) (hl : l.length ≤ 1000000) (hx : ∀ x ∈ l, x.f4.length ≤ 1000000) : Ev (fun k => logbookref16_All.f k l l) true := Ev.pos rfl (same_go l hl hx l.length 0 (by omega))
theorem its_len (B : List Int) (frm a : Int) : ∀ (its : List Int) (ts : List ByteArray), itemsS B frm a its = some ts → ts.length = its.length
  | [], ts, h => by
      cases h
      rfl
  | q :: r, ts, h => by
      unfold itemsS at h
      split at h
      · cases hr : itemsS B frm a r with
        | none =>
          rw [hr] at h
          cases h
        | some t =>
          rw [hr] at h
          cases h
          rw [List.length_cons, List.length_cons, its_len B frm a r t hr]
      · cases h
theorem ent_sizes (B : List Int) (frm : Int) : ∀ (rows : List ORow) (acc : List S57), (∀ r ∈ rows, rowOk B r) → (∀ x ∈ acc, x.f4.length ≤ 3000) → (entS B frm rows acc).1.length ≤ acc.length + rows.length ∧ ∀ x ∈ (entS B frm rows acc).1, x.f4.length ≤ 3000
  | [], acc, _, ha => ⟨Nat.le_refl _, ha⟩
  | r :: t, acc, hr, ha => by
      obtain ⟨w1, w2, w3, w4, w5⟩ := hr r (by simp)
      have ht : ∀ r' ∈ t, rowOk B r' := fun r' h' => hr r' (by simp [h'])
      unfold entS
      by_cases h3 : r.2.1 = 3
      case neg =>
        rw [if_neg h3]
        obtain ⟨e1, e2⟩ := ent_sizes B frm t acc ht ha
        exact ⟨by rw [List.length_cons]; omega, e2⟩
      rw [if_pos h3]
      cases hi : itemsS B frm r.1 r.2.2.2.2.1 with
      | none => exact ⟨Nat.zero_le _, fun x hx => by cases hx⟩
      | some ts =>
        have hts := its_len B frm _ _ ts hi
        obtain ⟨e1, e2⟩ := ent_sizes B frm t (acc ++ [recS r ts]) ht (fun x hx => by
          rcases List.mem_append.1 hx with hx | hx
          · exact ha x hx
          · rw [List.mem_singleton.1 hx]
            show ts.length ≤ 3000
            omega)
        rw [List.length_append, List.length_singleton] at e1
        exact ⟨by rw [List.length_cons]; show (entS B frm t (acc ++ [recS r ts])).1.length ≤ _; omega, e2⟩
theorem last_go (l : List ByteArray) (hl : l.length ≤ 1000000) : ∀ (d i : Nat), d + i = l.length → Ev (fun k => logbooklaw17_ScanEntries.l0 k l l i) true
  | 0, i, hd => Ev.step (fun k => logbooklaw17_ScanEntries.l0.eq_2 _ _ _ _) (Ev.neg (by omega) (Ev.bind awake_tells (Ev.now _)))
  | d + 1, i, hd => by
    refine Ev.step (fun k => logbooklaw17_ScanEntries.l0.eq_2 _ _ _ _) (Ev.pos (by omega) (Ev.pos (by omega) (Ev.pos (by omega) (Ev.pos rfl ?_))))
    rw [i1 i l.length (by omega) hl]
    exact last_go l hl d (i + 1) (by omega)
theorem law (l0 : List Int) (a1 a2 a3 : Int) (l1 l2 l3 : List Int) (hb : Bytes l0) (h1 : -9223372036854775808 ≤ a1 ∧ a1 ≤ 9223372036854775807) (h2 : -9223372036854775808 ≤ a2 ∧ a2 ≤ 9223372036854775807) (hw : wfWords l3) : ∃ k, logbooklaw17_ScanEntries.f k l0 a1 a2 a3 l1 l2 l3 = some true := by
  refine Ev.at ?_
  have haw : Ev (fun k => logbooklaw17_ScanEntries.j0 k l0 a1 a2 true a3 l1 l2 l3) true := Ev.step (fun k => logbooklaw17_ScanEntries.j0.eq_2 _ _ _ _ _ _ _ _ _) (Ev.pos rfl (Ev.bind awake_tells (Ev.now _)))
  refine Ev.both (fun _ => haw) (fun hl => ?_)
  have hB : l0.length ≤ 3000 := by omega
  by_cases hn : (l3.length : Int) > 200
  · rw [decide_eq_true hn]
    exact haw
  rw [decide_eq_false hn]
  have hr := rows_ok l0 hb hB a2 (l0.length + 2) a1
  have hc := rows_count l0 a2 (l0.length + 2) a1
  obtain ⟨e1, e2⟩ := ent_sizes l0 a1 (allS l0 a1 a2) [] hr (fun x hx => by cases hx)
  have hc2 : (allS l0 a1 a2).length ≤ l0.length + 2 := hc
  rw [List.length_nil] at e1
  have hlen : (tellIts [] (itemsS l0 a1 a2 l3)).1.length ≤ 1000000 := by
    cases hi : itemsS l0 a1 a2 l3 with
    | none => exact Nat.zero_le _
    | some ts =>
      have := its_len l0 a1 a2 l3 ts hi
      show ([] ++ ts : List ByteArray).length ≤ 1000000
      rw [List.nil_append]
      omega
  refine Ev.step (fun k => logbooklaw17_ScanEntries.j0.eq_2 _ _ _ _ _ _ _ _ _) (Ev.neg (by decide) ?_)
  refine Ev.bind (entries_tells l0 hb hB a1 a2 h1) (Ev.bind (refentries_tells l0 hb hB a1 a2 h1) (Ev.bind (items_tells l0 hb hB a1 a2 h1 h2 0 [] [] l3 hw (by omega)) (Ev.bind (refitems_tells l0 hb hB a1 a2 h1 h2 a3 l1 l2 l3 hw (by omega)) (Ev.bind (same_tells _ (by omega) (fun x hx => Nat.le_trans (e2 x hx) (by omega))) (Ev.pos rfl (Ev.neg (by simp) (Ev.neg (by simp) ?_)))))))
  rw [show (((tellIts [] (itemsS l0 a1 a2 l3)).1.length : Int) != ((tellIts [] (itemsS l0 a1 a2 l3)).1.length : Int)) = false by simp]
  exact Ev.step (fun k => logbooklaw17_ScanEntries.j1.eq_2 _ _ _ _) (Ev.neg (by decide) (last_go _ hlen (tellIts [] (itemsS l0 a1 a2 l3)).1.length 0 (by omega)))
end Go.Proofs.Ytldoaommikclbaa.SBScanEntries
namespace Go.Proofs.Ytldoaommikclbaa.PureScanEntries
open Go.RowKit Go.Proofs.Ytldoaommikclbaa.PScanEntries
theorem ScanEntries (y0 : List Int) (y1 : Int) (y2 : Int) (y3 : S31)
    (w0 : (y0.length ≤ maxLen ∧ y0.length * 1 ≤ 140737488351232 ∧ ∀ x ∈ y0, (Lit.int .u8 x).wf = true))
    (w1 : (Lit.int .i64 y1).wf = true)
    (w2 : (Lit.int .i64 y2).wf = true)
    (w3 : ((Lit.int .i64 y3.f0).wf = true) ∧ ((y3.f1.length ≤ maxLen ∧ y3.f1.length * 8 ≤ 140737488351232 ∧ ∀ x ∈ y3.f1, (Lit.int .u64 x).wf = true)) ∧ ((y3.f2.length ≤ maxLen ∧ y3.f2.length * 1 ≤ 140737488351232 ∧ ∀ x ∈ y3.f2, (Lit.int .u8 x).wf = true)) ∧ ((y3.f3.length ≤ maxLen ∧ y3.f3.length * 8 ≤ 140737488351232 ∧ ∀ x ∈ y3.f3, (Lit.int .u64 x).wf = true))) :
    ∃ k, logbooklaw17_ScanEntries.f k y0 y1 y2 y3.f0 y3.f1 y3.f2 y3.f3 = some true :=
  SBScanEntries.law y0 y1 y2 y3.f0 y3.f1 y3.f2 y3.f3 (fun x hx => Evs.wf_u8 (w0.2.2 x hx)) (Evs.wf_i64 w1) (Evs.wf_i64 w2) (fun x hx => Evs.wf_u64 (w3.2.2.2.2.2 x hx))
end Go.Proofs.Ytldoaommikclbaa.PureScanEntries
