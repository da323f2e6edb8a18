/- Sizes, rows, whole; the law awake: in plain Lean. -/
import Derived.Test.YtldoaommikclbaaScanAllScanObjects
import Derived.Test.YtldoaommikclbaaEvs
namespace Go.Proofs.Ytldoaommikclbaa.SBScanObjects
open Go.RowKit Go.Proofs.Ytldoaommikclbaa.PScanObjects Go.Proofs.YtldoaommikclbaaW.PrintWords Go.Proofs.YtldoaommikclbaaW.PrintLast Go.Proofs.YtldoaommikclbaaW.PrintMore Go.Proofs.Ytldoaommikclbaa.Evs Go.Proofs.Ytldoaommikclbaa.Conv
set_option linter.unusedVariables false
set_option linter.unusedSimpArgs false
/-! ### sizes, rows, whole, awake -/
theorem size_tells (kind : Int) (ws raw its : List Int) (hr : raw.length ≤ 3000) (hi : its.length ≤ 3000) : Ev (fun k => obj_Size.f k kind ws raw its) (al8 ((16 + 8 * wn kind).toNat + raw.length + 8 * its.length) : Int) := by
  have hw := wn_in kind
  refine Ev.bind (front_tells kind) ?_
  rw [w64 (x := 8 * (its.length : Int)) (by omega) (by omega), w64 (x := 16 + 8 * wn kind + (raw.length : Int)) (by omega) (by omega), w64 (x := 16 + 8 * wn kind + (raw.length : Int) + 8 * (its.length : Int)) (by omega) (by omega), show 16 + 8 * wn kind + (raw.length : Int) + 8 * (its.length : Int) = (((16 + 8 * wn kind).toNat + raw.length + 8 * its.length : Nat) : Int) by omega]
  exact Ev.bindc (align_tells _ (by omega)) (Ev.now _)
/-- what each row of all objects is -/
def rowSz (B : List Int) (r : ORow) : Prop := r.2.2.2.1.length ≤ 3000 ∧ r.2.2.2.2.1.length ≤ 3000 ∧ 0 ≤ r.1 ∧ r.2.2.2.2.2 ≤ (B.length : Int) ∧ r.1 + (al8 ((16 + 8 * wn r.2.1).toNat + r.2.2.2.1.length + 8 * r.2.2.2.2.1.length) : Int) = r.2.2.2.2.2 ∧ 0 ≤ r.2.2.2.2.2
theorem dec_sz (B : List Int) (hl : B.length ≤ 3000) (a : Int) (h : (decS B a).2.2.2.2.2 = true) : rowSz B (a, (decS B a).1, (decS B a).2.1, (decS B a).2.2.1, (decS B a).2.2.2.1, (decS B a).2.2.2.2.1) := by
  have he := dec_end h
  unfold decS at h
  by_cases g : 0 ≤ a ∧ okHead B a.toNat ∧ okRest B a.toNat
  case neg =>
    rw [if_neg g] at h
    cases h
  have e : decS B a = (kdS B a.toNat, wsS B a.toNat, rawS B a.toNat, itsS B a.toNat, ((a.toNat + al8 (sS B a.toNat) : Nat) : Int), true) := if_pos g
  rw [e] at he ⊢
  obtain ⟨g0, ⟨q1, q2, q3, q4, q5, q6⟩, o1, o2, o3, o4⟩ := g
  have hw := wn_in (kdS B a.toNat)
  have hn : (nS B a.toNat : Int) = wn (kdS B a.toNat) := by unfold nS; omega
  have hs : sS B a.toNat = 16 + 8 * nS B a.toNat + restS B a.toNat := by unfold restS sS nS; omega
  have hsz : szS B a.toNat = ((sS B a.toNat : Nat) : Int) := by unfold sS; omega
  have hB : a.toNat + 16 + 8 * nS B a.toNat + restS B a.toNat ≤ B.length := by omega
  have e1 : (rawS B a.toNat).length + 8 * (itsS B a.toNat).length = restS B a.toNat ∧ (rawS B a.toNat).length ≤ 3000 ∧ (itsS B a.toNat).length ≤ 3000 := by
    unfold rawS itsS
    by_cases hk : kdS B a.toNat ≤ 2
    · rw [if_pos hk, if_pos hk, List.length_take, List.length_drop, List.length_nil]
      omega
    · rw [if_neg hk, if_neg hk, wordsAt_length, List.length_nil]
      omega
  dsimp only at he
  refine ⟨e1.2.1, e1.2.2, g0, he.2.2, ?_, by dsimp only; omega⟩
  show a + (al8 ((16 + 8 * wn (kdS B a.toNat)).toNat + (rawS B a.toNat).length + 8 * (itsS B a.toNat).length) : Int) = ((a.toNat + al8 (sS B a.toNat) : Nat) : Int)
  rw [show (16 + 8 * wn (kdS B a.toNat)).toNat + (rawS B a.toNat).length + 8 * (itsS B a.toNat).length = sS B a.toNat by omega]
  omega
theorem rows_sz (B : List Int) (hl : B.length ≤ 3000) (lim : Int) : ∀ (m : Nat) (a : Int), ∀ r ∈ rowsS B lim m a, rowSz B r
  | 0, _ => fun r hr => by cases hr
  | m + 1, a => fun r hr => by
      unfold rowsS at hr
      split at hr
      · rename_i h
        rcases List.mem_cons.1 hr with rfl | hr
        · exact dec_sz B hl a h.2.1
        · exact rows_sz B hl lim m _ r hr
      · cases hr
theorem rows_count (B : List Int) (lim : Int) : ∀ (m : Nat) (a : Int), (rowsS B lim m a).length ≤ m
  | 0, _ => by simp [rowsS]
  | m + 1, a => by
      unfold rowsS
      split
      · rw [List.length_cons]
        have := rows_count B lim m (decS B a).2.2.2.2.1
        omega
      · simp
theorem rowsL_tells (B : List Int) (hl : B.length ≤ 3000) : ∀ (rows : List ORow) (acc : List S33), (∀ r ∈ rows, rowSz B r) → acc.length + rows.length ≤ 10000 → Ev (fun k => rowsL k rows acc) (acc ++ rows.map toRow)
  | [], acc, _, _ => Ev.eq (Ev.now _) (by simp)
  | r :: t, acc, hr, hn => by
      obtain ⟨w1, w2, w3, w4, w5, w6⟩ := hr r (by simp)
      rw [List.length_cons] at hn
      have ih := rowsL_tells B hl t (acc ++ [toRow r]) (fun r' h' => hr r' (by simp [h'])) (by rw [List.length_append, List.length_singleton]; omega)
      rw [List.append_assoc] at ih
      refine Ev.bind (size_tells _ _ _ _ w1 w2) (Ev.pos (by omega) ?_)
      rw [w5, w64 (by omega) (by omega)]
      exact ih
theorem rows_tells (B : List Int) (hb : Bytes B) (hl : B.length ≤ 3000) (a lim : Int) (ha : -9223372036854775808 ≤ a ∧ a ≤ 9223372036854775807) : Ev (fun k => logbooklaw17_rows.f k B a lim) ((allS B a lim).map toRow) := by
  have h := rowsL_tells B hl (allS B a lim) [] (rows_sz B hl lim _ _) (by have := rows_count B lim (B.length + 2) a; unfold allS; simp only [List.length_nil]; omega)
  rw [List.nil_append] at h
  exact Ev.bind (all_tells B hb hl a lim ha) h
def endS : List ORow → Int → Int
  | [], e => e
  | r :: t, _ => endS t r.2.2.2.2.2
theorem endsL_tells (B : List Int) (hl : B.length ≤ 3000) : ∀ (rows : List ORow) (e : Int), (∀ r ∈ rows, rowSz B r) → Ev (fun k => endsL k rows e) (endS rows e)
  | [], e, _ => Ev.now _
  | r :: t, e, hr => by
      obtain ⟨w1, w2, w3, w4, w5, w6⟩ := hr r (by simp)
      refine Ev.bind (size_tells _ _ _ _ w1 w2) ?_
      rw [w5, w64 (by omega) (by omega)]
      exact endsL_tells B hl t _ (fun r' h' => hr r' (by simp [h']))
def wholeS (B : List Int) (a lim : Int) : Bool := decide (0 ≤ a) && (endS (allS B a lim) a == lim && decide (lim ≤ (B.length : Int)))
theorem whole_tells (B : List Int) (hb : Bytes B) (hl : B.length ≤ 3000) (a lim : Int) (ha : -9223372036854775808 ≤ a ∧ a ≤ 9223372036854775807) : Ev (fun k => scan_Whole.f k B a lim) (wholeS B a lim) :=
  Ev.bind (all_tells B hb hl a lim ha) (Ev.bind (endsL_tells B hl _ _ (rows_sz B hl lim _ _)) (Ev.now _))
/-- the one object of awake -/
def oneE : List Int := [4, 0, 0, 0, 0, 0, 0, 0, 32, 0, 0, 0, 0, 0, 0, 0, 0, 0, 0, 0, 0, 0, 0, 0, 5, 0, 0, 0, 0, 0, 0, 0]
theorem oneE_bytes : Bytes oneE := by decide
theorem enc_one : Ev (fun k => obj_Encode.f k 4 [0] [] [5]) oneE := by
  refine Ev.bind (right_tells 4 [0] [] [5]) (Ev.pos (by decide) (Ev.bind (front_tells 4) (Ev.pos (by decide) ?_)))
  exact Ev.fix (by rfl)
theorem one_all : allS oneE 0 32 = [(0, 4, [0], [], [5], 32)] := by decide +kernel
theorem one_all8 : allS oneE 8 32 = [] := by decide +kernel
theorem no_all : allS [] 0 0 = [] := by decide +kernel
theorem awake_tells : Ev (fun k => logbooklaw17_awake.f k) true := by
  have h1 := rows_tells oneE oneE_bytes (by decide) 0 32 (by decide)
  have w1 := whole_tells oneE oneE_bytes (by decide) 0 32 (by decide)
  have w2 := whole_tells oneE oneE_bytes (by decide) 8 32 (by decide)
  have w3 := whole_tells [] (fun x hx => by cases hx) (by decide) 0 0 (by decide)
  unfold wholeS at w1 w2 w3
  rw [one_all] at h1 w1
  rw [one_all8] at w2
  rw [no_all] at w3
  refine Ev.bind enc_one (Ev.bind h1 (Ev.pos (by decide) (Ev.pos (by decide) (Ev.pos (by decide) ?_))))
  exact Ev.bind w1 (Ev.pos (by decide) (Ev.bind w2 (Ev.neg (by decide) (Ev.bind w3 (Ev.now _)))))
end Go.Proofs.Ytldoaommikclbaa.SBScanObjects
