/- All objects of bytes, as the program and as the reference tell them: in plain Lean. -/
import Derived.Test.YtldoaommikclbaaScanRefScanObjects
import Derived.Test.YtldoaommikclbaaEvs
namespace Go.Proofs.Ytldoaommikclbaa.SBScanObjects
open Go.RowKit Go.Proofs.Ytldoaommikclbaa.PScanObjects Go.Proofs.YtldoaommikclbaaW.PrintWords Go.Proofs.YtldoaommikclbaaW.PrintLast Go.Proofs.YtldoaommikclbaaW.PrintMore Go.Proofs.Ytldoaommikclbaa.Evs Go.Proofs.Ytldoaommikclbaa.Conv
set_option linter.unusedVariables false
set_option linter.unusedSimpArgs false
/-! ### all objects, from a place up to another one -/
def rowsS (B : List Int) (lim : Int) : Nat → Int → List ORow
  | 0, _ => []
  | m + 1, a => if (a < lim ∧ a < (B.length : Int)) ∧ ((decS B a).2.2.2.2.2 = true ∧ (decS B a).2.2.2.2.1 ≤ lim) then (a, (decS B a).1, (decS B a).2.1, (decS B a).2.2.1, (decS B a).2.2.2.1, (decS B a).2.2.2.2.1) :: rowsS B lim m (decS B a).2.2.2.2.1 else []
theorem dec_end {B : List Int} {a : Int} (h : (decS B a).2.2.2.2.2 = true) : 0 ≤ a ∧ a + 16 ≤ (decS B a).2.2.2.2.1 ∧ (decS B a).2.2.2.2.1 ≤ (B.length : Int) := by
  unfold decS at h ⊢
  by_cases g : 0 ≤ a ∧ okHead B a.toNat ∧ okRest B a.toNat
  · rw [if_pos g]
    obtain ⟨g0, ⟨q1, q2, q3, q4, q5, q6⟩, o1, _⟩ := g
    have hw := wn_in (kdS B a.toNat)
    have := al8_ge (sS B a.toNat)
    have hs : 16 ≤ sS B a.toNat := by unfold sS; omega
    dsimp only
    omega
  · rw [if_neg g] at h
    cases h
theorem allL_tells (B : List Int) (hb : Bytes B) (hl : B.length ≤ 3000) (lim : Int) : ∀ (m : Nat) (a : Int), (-9223372036854775808 ≤ a ∧ a ≤ 9223372036854775807) → ((B.length : Int) - a).toNat + 1 ≤ m ∨ (a < 0 ∧ 1 ≤ m) → Ev (fun k => allL k B lim m a) (rowsS B lim m a)
  | 0, a, ha, h => by omega
  | m + 1, a, ha, h => by
      unfold rowsS
      by_cases h1 : a < lim ∧ a < (B.length : Int)
      case neg =>
        rw [if_neg (fun g => h1 g.1)]
        exact Ev.neg h1 (Ev.now _)
      refine Ev.pos h1 (Ev.bind (dec_tells B a hb hl ha) ?_)
      by_cases h2 : (decS B a).2.2.2.2.2 = true ∧ (decS B a).2.2.2.2.1 ≤ lim
      case neg =>
        rw [if_neg (fun g => h2 g.2)]
        exact Ev.neg h2 (Ev.now _)
      have he := dec_end h2.1
      rw [if_pos ⟨h1, h2⟩]
      exact Ev.pos h2 (Ev.bind (allL_tells B hb hl lim m _ (by omega) (by omega)) (Ev.now _))
theorem rowsS_more (B : List Int) (lim : Int) : ∀ (m n : Nat) (a : Int), ((B.length : Int) - a).toNat + 1 ≤ m ∨ (a < 0 ∧ 1 ≤ m) → m ≤ n → rowsS B lim n a = rowsS B lim m a
  | 0, n, a, h, _ => by omega
  | m + 1, 0, a, h, g => by omega
  | m + 1, n + 1, a, h, g => by
      unfold rowsS
      by_cases h1 : (a < lim ∧ a < (B.length : Int)) ∧ ((decS B a).2.2.2.2.2 = true ∧ (decS B a).2.2.2.2.1 ≤ lim)
      · have he := dec_end h1.2.1
        rw [if_pos h1, if_pos h1, rowsS_more B lim m n _ (by omega) (by omega)]
      · rw [if_neg h1, if_neg h1]
/-- all objects -/
def allS (B : List Int) (a lim : Int) : List ORow := rowsS B lim (B.length + 2) a
theorem fuel_ok (B : List Int) (a : Int) : ((B.length : Int) - a).toNat + 1 ≤ B.length + 2 ∨ (a < 0 ∧ 1 ≤ B.length + 2) := by omega
theorem all_tells (B : List Int) (hb : Bytes B) (hl : B.length ≤ 3000) (a lim : Int) (ha : -9223372036854775808 ≤ a ∧ a ≤ 9223372036854775807) : Ev (fun k => allL k B lim k a) (allS B a lim) := by
  obtain ⟨K, hK⟩ := allL_tells B hb hl lim (B.length + 2) a ha (fuel_ok B a)
  refine ⟨K + (B.length + 2), fun k hk => ?_⟩
  have h := hK k (by omega)
  have e := allL_le k B lim (B.length + 2) a (k - (B.length + 2)) _ h
  rw [show B.length + 2 + (k - (B.length + 2)) = k by omega] at e
  exact e
def toRow (r : ORow) : S33 := ⟨r.1, r.2.2.2.2.2, ⟨r.2.1, r.2.2.1, r.2.2.2.1, r.2.2.2.2.1⟩⟩
theorem refall_go (B : List Int) (hb : Bytes B) (hl : B.length ≤ 3000) (lim : Int) : ∀ (m : Nat) (a : Int) (i : Nat) (acc : List S33), (-9223372036854775808 ≤ a ∧ a ≤ 9223372036854775807) → (((B.length : Int) - a).toNat + 1 ≤ m ∨ (a < 0 ∧ 1 ≤ m)) → (i = 0 ∨ ((i : Int) ≤ a ∧ a ≤ (B.length : Int))) → acc.length = i →
    Ev (fun k => logbookref17_All.l0 k B lim acc a (i : Int)) (acc ++ (rowsS B lim m a).map toRow)
  | 0, a, i, acc, ha, h, hi, hc => by omega
  | m + 1, a, i, acc, ha, h, hi, hc => by
      refine Ev.step (fun k => logbookref17_All.l0.eq_2 _ _ _ _ _ _) (Ev.pos (by omega) (Ev.bind (refdec_tells B a hb hl ha) ?_))
      unfold rowsS
      by_cases h2 : (decS B a).2.2.2.2.2 = true
      case neg =>
        rw [if_neg (fun g => h2 g.2.1), List.map_nil, List.append_nil]
        exact Ev.neg h2 (Ev.now _)
      have he := dec_end h2
      refine Ev.pos h2 ?_
      by_cases h3 : a ≥ lim
      · rw [if_neg (fun g => by have := g.1.1; omega), List.map_nil, List.append_nil]
        exact Ev.pos h3 (Ev.now _)
      refine Ev.neg h3 ?_
      by_cases h4 : (decS B a).2.2.2.2.1 > lim
      · rw [if_neg (fun g => by have := g.2.2; omega), List.map_nil, List.append_nil]
        exact Ev.pos h4 (Ev.now _)
      refine Ev.neg h4 (Ev.pos (by omega) ?_)
      rw [if_pos ⟨⟨by omega, by omega⟩, h2, by omega⟩, List.map_cons]
      have ih := refall_go B hb hl lim m (decS B a).2.2.2.2.1 (i + 1) (acc ++ [toRow (a, (decS B a).1, (decS B a).2.1, (decS B a).2.2.1, (decS B a).2.2.2.1, (decS B a).2.2.2.2.1)]) (by omega) (by omega) (by omega) (by rw [List.length_append, hc]; rfl)
      rw [List.append_assoc] at ih
      rw [show wrap64 ((i : Int) + 1) = ((i + 1 : Nat) : Int) by unfold wrap64; omega]
      exact ih
theorem refall_tells (B : List Int) (hb : Bytes B) (hl : B.length ≤ 3000) (a lim : Int) (ha : -9223372036854775808 ≤ a ∧ a ≤ 9223372036854775807) : Ev (fun k => logbookref17_All.f k B a lim) ((allS B a lim).map toRow) := by
  have h := refall_go B hb hl lim (B.length + 2) a 0 [] ha (fuel_ok B a) (Or.inl rfl) rfl
  rw [List.nil_append] at h
  exact h
end Go.Proofs.Ytldoaommikclbaa.SBScanObjects
