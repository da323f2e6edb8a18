/- All objects of bytes, as the program and as the reference tell them: in plain Lean. -/
import Derived.Test.YtldoaommikclbaaScanRefScanEntries
import Derived.Test.YtldoaommikclbaaEvs
namespace Go.Proofs.Ytldoaommikclbaa.SBScanEntries
open Go.RowKit Go.Proofs.Ytldoaommikclbaa.PScanEntries Go.Proofs.YtldoaommikclbaaW.PrintWords Go.Proofs.YtldoaommikclbaaW.PrintLast Go.Proofs.YtldoaommikclbaaW.PrintMore Go.Proofs.Ytldoaommikclbaa.Evs Go.Proofs.Ytldoaommikclbaa.Conv
set_option linter.unusedVariables false
set_option linter.unusedSimpArgs false
/-! ### all objects, from a place up to another one -/
def rowsS (B : List Int) (lim : Int) : Nat → Int → List ORow
  | 0, _ => []
  | m + 1, a => if (a < lim ∧ a < (B.length : Int)) ∧ ((decS B a).2.2.2.2.2 = true ∧ (decS B a).2.2.2.2.1 ≤ lim) then (a, (decS B a).1, (decS B a).2.1, (decS B a).2.2.1, (decS B a).2.2.2.1, (decS B a).2.2.2.2.1) :: rowsS B lim m (decS B a).2.2.2.2.1 else []
theorem dec_end {B : List Int} {a : Int} (h : (decS B a).2.2.2.2.2 = true) : 0 ≤ a ∧ a + 16 ≤ (decS B a).2.2.2.2.1 ∧ (decS B a).2.2.2.2.1 ≤ (B.length : Int) := by
  unfold decS at h ⊢
  by_cases g : 0 ≤ a ∧ okHead B a.toNat ∧ okRest B a.toNat
  · rw [if_pos g]
    obtain ⟨g0, ⟨q1, q2, q3, q4, q5, q6⟩, o1, _⟩ := g
    have hw := wn_in (kdS B a.toNat)
    have := al8_ge (sS B a.toNat)
    have hs : 16 ≤ sS B a.toNat := by unfold sS; omega
    dsimp only
    omega
  · rw [if_neg g] at h
    cases h
theorem allL_tells (B : List Int) (hb : Bytes B) (hl : B.length ≤ 3000) (lim : Int) : ∀ (m : Nat) (a : Int), (-9223372036854775808 ≤ a ∧ a ≤ 9223372036854775807) → ((B.length : Int) - a).toNat + 1 ≤ m ∨ (a < 0 ∧ 1 ≤ m) → Ev (fun k => allL k B lim m a) (rowsS B lim m a)
  | 0, a, ha, h => by omega
  | m + 1, a, ha, h => by
      unfold rowsS
      by_cases h1 : a < lim ∧ a < (B.length : Int)
      case neg =>
        rw [if_neg (fun g => h1 g.1)]
        exact Ev.neg h1 (Ev.now _)
      refine Ev.pos h1 (Ev.bind (dec_tells B a hb hl ha) ?_)
      by_cases h2 : (decS B a).2.2.2.2.2 = true ∧ (decS B a).2.2.2.2.1 ≤ lim
      case neg =>
        rw [if_neg (fun g => h2 g.2)]
        exact Ev.neg h2 (Ev.now _)
      have he := dec_end h2.1
      rw [if_pos ⟨h1, h2⟩]
      exact Ev.pos h2 (Ev.bind (allL_tells B hb hl lim m _ (by omega) (by omega)) (Ev.now _))
theorem rowsS_more (B : List Int) (lim : Int) : ∀ (m n : Nat) (a : Int), ((B.length : Int) - a).toNat + 1 ≤ m ∨ (a < 0 ∧ 1 ≤ m) → m ≤ n → rowsS B lim n a = rowsS B lim m a
  | 0, n, a, h, _ => by omega
  | m + 1, 0, a, h, g => by omega
  | m + 1, n + 1, a, h, g => by
      unfold rowsS
      by_cases h1 : (a < lim ∧ a < (B.length : Int)) ∧ ((decS B a).2.2.2.2.2 = true ∧ (decS B a).2.2.2.2.1 ≤ lim)
      · have he := dec_end h1.2.1
        rw [if_pos h1, if_pos h1, rowsS_more B lim m n _ (by omega) (by omega)]
      · rw [if_neg h1, if_neg h1]
/-- all objects -/
def allS (B : List Int) (a lim : Int) : List ORow := rowsS B lim (B.length + 2) a
theorem fuel_ok (B : List Int) (a : Int) : ((B.length : Int) - a).toNat + 1 ≤ B.length + 2 ∨ (a < 0 ∧ 1 ≤ B.length + 2) := by omega
theorem all_tells (B : List Int) (hb : Bytes B) (hl : B.length ≤ 3000) (a lim : Int) (ha : -9223372036854775808 ≤ a ∧ a ≤ 9223372036854775807) : Ev (fun k => allL k B lim k a) (allS B a lim) := by
  obtain ⟨K, hK⟩ := allL_tells B hb hl lim (B.length + 2) a ha (fuel_ok B a)
  refine ⟨K + (B.length + 2), fun k hk => ?_⟩
  have h := hK k (by omega)
  have e := allL_le k B lim (B.length + 2) a (k - (B.length + 2)) _ h
  rw [show B.length + 2 + (k - (B.length + 2)) = k by omega] at e
  exact e
def toRow (r : ORow) : S33 := ⟨r.1, r.2.2.2.2.2, ⟨r.2.1, r.2.2.1, r.2.2.2.1, r.2.2.2.2.1⟩⟩
theorem refall_go (B : List Int) (hb : Bytes B) (hl : B.length ≤ 3000) (lim : Int) : ∀ (m : Nat) (a : Int) (i : Nat) (acc : List S33), (-9223372036854775808 ≤ a ∧ a ≤ 9223372036854775807) → (((B.length : Int) - a).toNat + 1 ≤ m ∨ (a < 0 ∧ 1 ≤ m)) → (i = 0 ∨ ((i : Int) ≤ a ∧ a ≤ (B.length : Int))) → acc.length = i →
    Ev (fun k => logbookref17_All.l0 k B lim acc a (i : Int)) (acc ++ (rowsS B lim m a).map toRow)
  | 0, a, i, acc, ha, h, hi, hc => by omega
  | m + 1, a, i, acc, ha, h, hi, hc => by
      refine Ev.step (fun k => logbookref17_All.l0.eq_2 _ _ _ _ _ _) (Ev.pos (by omega) (Ev.bind (refdec_tells B a hb hl ha) ?_))
      unfold rowsS
      by_cases h2 : (decS B a).2.2.2.2.2 = true
      case neg =>
        rw [if_neg (fun g => h2 g.2.1), List.map_nil, List.append_nil]
        exact Ev.neg h2 (Ev.now _)
      have he := dec_end h2
      refine Ev.pos h2 ?_
      by_cases h3 : a ≥ lim
      · rw [if_neg (fun g => by have := g.1.1; omega), List.map_nil, List.append_nil]
        exact Ev.pos h3 (Ev.now _)
      refine Ev.neg h3 ?_
      by_cases h4 : (decS B a).2.2.2.2.1 > lim
      · rw [if_neg (fun g => by have := g.2.2; omega), List.map_nil, List.append_nil]
        exact Ev.pos h4 (Ev.now _)
      refine Ev.neg h4 (Ev.pos (by omega) ?_)
      rw [if_pos ⟨⟨by omega, by omega⟩, h2, by omega⟩, List.map_cons]
      have ih := refall_go B hb hl lim m (decS B a).2.2.2.2.1 (i + 1) (acc ++ [toRow (a, (decS B a).1, (decS B a).2.1, (decS B a).2.2.1, (decS B a).2.2.2.1, (decS B a).2.2.2.2.1)]) (by omega) (by omega) (by omega) (by rw [List.length_append, hc]; rfl)
      rw [List.append_assoc] at ih
      rw [show wrap64 ((i : Int) + 1) = ((i + 1 : Nat) : Int) by unfold wrap64; omega]
      exact ih
theorem refall_tells (B : List Int) (hb : Bytes B) (hl : B.length ≤ 3000) (a lim : Int) (ha : -9223372036854775808 ≤ a ∧ a ≤ 9223372036854775807) : Ev (fun k => logbookref17_All.f k B a lim) ((allS B a lim).map toRow) := by
  have h := refall_go B hb hl lim (B.length + 2) a 0 [] ha (fuel_ok B a) (Or.inl rfl) rfl
  rw [List.nil_append] at h
  exact h
/-! ### the items of an entry -/
def itemsS (B : List Int) (frm at_ : Int) : List Int → Option (List ByteArray)
  | [] => some []
  | q :: r => if (0 ≤ q ∧ frm ≤ q ∧ q < at_) ∧ (decS B q).2.2.2.2.2 = true ∧ (decS B q).1 = 1 then (itemsS B frm at_ r).map fun t => strOfNums (decS B q).2.2.1 :: t else none
def tellIts (acc : List ByteArray) : Option (List ByteArray) → List ByteArray × Bool
  | some t => (acc ++ t, true)
  | none => ([], false)
theorem drop_rd {l : List Int} {i : Nat} (h : i < l.length) : l.drop i = rd l (i : Int) :: l.drop (i + 1) := by
  rw [List.drop_eq_getElem_cons h]
  congr 1
  unfold rd
  rw [Int.toNat_natCast, List.getD_eq_getElem?_getD, List.getElem?_eq_getElem h]
  rfl
theorem decS_far {B : List Int} {q : Int} (h : (B.length : Int) ≤ q) : (decS B q).2.2.2.2.2 = false := by
  by_cases e : (decS B q).2.2.2.2.2 = true
  · have := dec_end e
    omega
  · simpa using e
theorem items_go (B : List Int) (hb : Bytes B) (hl : B.length ≤ 3000) (frm at_ : Int) (hf : -9223372036854775808 ≤ frm ∧ frm ≤ 9223372036854775807) (ha : -9223372036854775808 ≤ at_ ∧ at_ ≤ 9223372036854775807) (its : List Int) (hw : wfWords its) (hn : its.length ≤ 10000) :
    ∀ (d i : Nat) (acc : List ByteArray), d + i = its.length → acc.length = i → Ev (fun k => scan_Items.l0 k B frm at_ acc its (its.length : Int) (i : Int)) (tellIts acc (itemsS B frm at_ (its.drop i)))
  | 0, i, acc, hd, hc => by
      rw [List.drop_of_length_le (by omega)]
      exact Ev.step (fun k => scan_Items.l0.eq_2 _ _ _ _ _ _ _ _) (Ev.neg (by omega) (Ev.eq (Ev.now _) (by simp [tellIts, itemsS])))
  | d + 1, i, acc, hd, hc => by
      have hq := hw _ (rd_mem its i (by omega))
      rw [drop_rd (by omega)]
      generalize hqe : rd its (i : Int) = q at hq
      have hm1 : IntKind.u64.wrap (mx frm 0) = mx frm 0 := wu64 (by unfold mx; split <;> omega) (by unfold mx; split <;> omega)
      have hm2 : IntKind.u64.wrap (mx at_ 0) = mx at_ 0 := wu64 (by unfold mx; split <;> omega) (by unfold mx; split <;> omega)
      have e1 : (0 ≤ q ∧ frm ≤ q ∧ q < at_) ↔ (¬ q < mx frm 0 ∧ ¬ q ≥ mx at_ 0) := by
        unfold mx
        split <;> split <;> omega
      have hstop : ∀ k0 : Nat → Nat, Ev (fun k => scan_Items.j1 k B frm at_ acc q its (its.length : Int) (i : Int) true) (([] : List ByteArray), false) := fun _ => Ev.step (fun k => scan_Items.j1.eq_2 _ _ _ _ _ _ _ _ _ _) (Ev.pos rfl (Ev.now _))
      refine Ev.step (fun k => scan_Items.l0.eq_2 _ _ _ _ _ _ _ _) (Ev.pos (by omega) (Ev.pos (by omega) (Ev.pos (by omega) ?_)))
      rw [hqe, hm1, hm2]
      unfold itemsS
      by_cases h1 : q < mx frm 0
      · rw [if_neg (fun g => (e1.1 g.1).1 h1)]
        exact Ev.pos h1 (hstop id)
      refine Ev.neg h1 ?_
      by_cases h2 : q ≥ mx at_ 0
      · rw [if_neg (fun g => (e1.1 g.1).2 h2), decide_eq_true h2]
        exact hstop id
      rw [decide_eq_false h2]
      have h3 := e1.2 ⟨h1, h2⟩
      refine Ev.step (fun k => scan_Items.j1.eq_2 _ _ _ _ _ _ _ _ _ _) (Ev.neg (by decide) ?_)
      rw [w64 (x := q) (by omega) (by omega)]
      refine Ev.bind (dec_tells B q hb hl (by omega)) ?_
      by_cases h4 : (decS B q).2.2.2.2.2 = true
      case neg =>
        rw [if_neg (fun g => h4 g.2.1)]
        exact Ev.neg h4 (Ev.now _)
      refine Ev.pos h4 ?_
      by_cases h5 : (decS B q).1 = 1
      case neg =>
        rw [if_neg (fun g => h5 g.2.2)]
        exact Ev.neg h5 (Ev.now _)
      rw [if_pos ⟨h3, h4, h5⟩]
      refine Ev.pos h5 (Ev.pos (by omega) ?_)
      have ih := items_go B hb hl frm at_ hf ha its hw hn d (i + 1) (acc ++ [strOfNums (decS B q).2.2.1]) (by omega) (by rw [List.length_append, hc]; rfl)
      rw [show wrap64 ((i : Int) + 1) = ((i + 1 : Nat) : Int) by unfold wrap64; omega]
      refine Ev.eq ih ?_
      cases itemsS B frm at_ (its.drop (i + 1)) with
      | none => rfl
      | some t => simp [tellIts]
theorem items_tells (B : List Int) (hb : Bytes B) (hl : B.length ≤ 3000) (frm at_ : Int) (hf : -9223372036854775808 ≤ frm ∧ frm ≤ 9223372036854775807) (ha : -9223372036854775808 ≤ at_ ∧ at_ ≤ 9223372036854775807) (kind : Int) (ws raw its : List Int) (hw : wfWords its) (hn : its.length ≤ 10000) :
    Ev (fun k => scan_Items.f k B frm at_ kind ws raw its) (tellIts [] (itemsS B frm at_ its)) := by
  have h := items_go B hb hl frm at_ hf ha its hw hn its.length 0 [] rfl rfl
  rw [List.drop_zero] at h
  exact h
theorem refitems_go (B : List Int) (hb : Bytes B) (hl : B.length ≤ 3000) (frm at_ : Int) (hf : -9223372036854775808 ≤ frm ∧ frm ≤ 9223372036854775807) (ha : -9223372036854775808 ≤ at_ ∧ at_ ≤ 9223372036854775807) (kind : Int) (ws raw its : List Int) (hw : wfWords its) (hn : its.length ≤ 10000) :
    ∀ (d i : Nat) (acc : List ByteArray), d + i = its.length → acc.length = i → Ev (fun k => logbookref17_Items.l0 k B frm at_ acc (i : Int) kind ws raw its) (tellIts acc (itemsS B frm at_ (its.drop i)))
  | 0, i, acc, hd, hc => by
      rw [List.drop_of_length_le (by omega)]
      exact Ev.step (fun k => logbookref17_Items.l0.eq_2 _ _ _ _ _ _ _ _ _ _) (Ev.neg (by omega) (Ev.eq (Ev.now _) (by simp [tellIts, itemsS])))
  | d + 1, i, acc, hd, hc => by
      have hq := hw _ (rd_mem its i (by omega))
      rw [drop_rd (by omega)]
      generalize hqe : rd its (i : Int) = q at hq
      have hstop : Ev (fun k => logbookref17_Items.j1 k B frm at_ acc (i : Int) q true kind ws raw its) (([] : List ByteArray), false) := Ev.step (fun k => logbookref17_Items.j1.eq_2 _ _ _ _ _ _ _ _ _ _ _ _) (Ev.pos rfl (Ev.now _))
      refine Ev.step (fun k => logbookref17_Items.l0.eq_2 _ _ _ _ _ _ _ _ _ _) (Ev.pos (by omega) (Ev.pos (by omega) ?_))
      rw [hqe]
      unfold itemsS
      by_cases h0 : q > 1099511627776
      · rw [if_neg (fun g => by have := decS_far (B := B) (q := q) (by omega); rw [this] at g; exact absurd g.2.1 (by decide))]
        exact Ev.pos h0 hstop
      refine Ev.neg h0 ?_
      have hgo : (0 ≤ q ∧ frm ≤ q ∧ q < at_) → Ev (fun k => logbookref17_Items.j1 k B frm at_ acc (i : Int) q false kind ws raw its) (tellIts acc (if (0 ≤ q ∧ frm ≤ q ∧ q < at_) ∧ (decS B q).2.2.2.2.2 = true ∧ (decS B q).1 = 1 then (itemsS B frm at_ (its.drop (i + 1))).map fun t => strOfNums (decS B q).2.2.1 :: t else none)) := by
        intro h3
        refine Ev.step (fun k => logbookref17_Items.j1.eq_2 _ _ _ _ _ _ _ _ _ _ _ _) (Ev.neg (by decide) ?_)
        rw [w64 (x := q) (by omega) (by omega)]
        refine Ev.bind (refdec_tells B q hb hl (by omega)) ?_
        by_cases h4 : (decS B q).2.2.2.2.2 = true
        case neg =>
          rw [if_neg (fun g => h4 g.2.1)]
          exact Ev.neg h4 (Ev.now _)
        refine Ev.pos h4 ?_
        by_cases h5 : (decS B q).1 = 1
        case neg =>
          rw [if_neg (fun g => h5 g.2.2)]
          exact Ev.neg h5 (Ev.now _)
        rw [if_pos ⟨h3, h4, h5⟩]
        refine Ev.pos h5 (Ev.pos (by omega) ?_)
        have ih := refitems_go B hb hl frm at_ hf ha kind ws raw its hw hn d (i + 1) (acc ++ [strOfNums (decS B q).2.2.1]) (by omega) (by rw [List.length_append, hc]; rfl)
        rw [show wrap64 ((i : Int) + 1) = ((i + 1 : Nat) : Int) by unfold wrap64; omega]
        refine Ev.eq ih ?_
        cases itemsS B frm at_ (its.drop (i + 1)) with
        | none => rfl
        | some t => simp [tellIts]
      have hlast : ¬ (frm > 0 ∧ q < frm) → ¬ at_ ≤ 0 → Ev (fun k => logbookref17_Items.j1 k B frm at_ acc (i : Int) q (decide (q ≥ IntKind.u64.wrap at_)) kind ws raw its) (tellIts acc (if (0 ≤ q ∧ frm ≤ q ∧ q < at_) ∧ (decS B q).2.2.2.2.2 = true ∧ (decS B q).1 = 1 then (itemsS B frm at_ (its.drop (i + 1))).map fun t => strOfNums (decS B q).2.2.1 :: t else none)) := by
        intro g1 g2
        rw [wu64 (x := at_) (by omega) (by omega)]
        by_cases h6 : q ≥ at_
        · rw [decide_eq_true h6, if_neg (fun g => by have := g.1.2.2; omega)]
          exact hstop
        · rw [decide_eq_false h6]
          exact hgo ⟨hq.1, by omega, by omega⟩
      by_cases h1 : frm > 0
      · refine Ev.pos h1 ?_
        rw [wu64 (x := frm) (by omega) (by omega)]
        by_cases h2 : q < frm
        · rw [if_neg (fun g => by have := g.1.2.1; omega)]
          exact Ev.pos h2 hstop
        refine Ev.neg h2 ?_
        by_cases h3 : at_ ≤ 0
        · rw [if_neg (fun g => by have := g.1.2.2; omega)]
          exact Ev.pos h3 hstop
        · exact Ev.neg h3 (hlast (fun g => h2 g.2) h3)
      · refine Ev.neg h1 ?_
        by_cases h3 : at_ ≤ 0
        · rw [if_neg (fun g => by have := g.1.2.2; omega)]
          exact Ev.pos h3 hstop
        · exact Ev.neg h3 (hlast (fun g => h1 g.1) h3)
theorem refitems_tells (B : List Int) (hb : Bytes B) (hl : B.length ≤ 3000) (frm at_ : Int) (hf : -9223372036854775808 ≤ frm ∧ frm ≤ 9223372036854775807) (ha : -9223372036854775808 ≤ at_ ∧ at_ ≤ 9223372036854775807) (kind : Int) (ws raw its : List Int) (hw : wfWords its) (hn : its.length ≤ 10000) :
    Ev (fun k => logbookref17_Items.f k B frm at_ kind ws raw its) (tellIts [] (itemsS B frm at_ its)) := by
  have h := refitems_go B hb hl frm at_ hf ha kind ws raw its hw hn its.length 0 [] rfl rfl
  rw [List.drop_zero] at h
  exact h
end Go.Proofs.Ytldoaommikclbaa.SBScanEntries
