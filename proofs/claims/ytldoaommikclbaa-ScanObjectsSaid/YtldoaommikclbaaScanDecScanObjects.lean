/- An object at a place, as the program and as the reference read it: in plain Lean. -/
import Derived.Test.YtldoaommikclbaaScanBaseScanObjects
import Derived.Test.YtldoaommikclbaaEvs
namespace Go.Proofs.Ytldoaommikclbaa.SBScanObjects
open Go.RowKit Go.Proofs.Ytldoaommikclbaa.PScanObjects Go.Proofs.YtldoaommikclbaaW.PrintWords Go.Proofs.YtldoaommikclbaaW.PrintLast Go.Proofs.YtldoaommikclbaaW.PrintMore Go.Proofs.Ytldoaommikclbaa.Evs Go.Proofs.Ytldoaommikclbaa.Conv
set_option linter.unusedVariables false
set_option linter.unusedSimpArgs false
/-! ### what an object at a place is -/
def wordsAt (B : List Int) : Nat → Nat → List Int
  | _, 0 => []
  | p, n + 1 => leV ((B.drop p).take 8) :: wordsAt B (p + 8) n
theorem wordsAt_length (B : List Int) : ∀ (n p : Nat), (wordsAt B p n).length = n
  | 0, _ => rfl
  | n + 1, p => by rw [wordsAt, List.length_cons, wordsAt_length B n]
def kdS (B : List Int) (p : Nat) : Int := leV ((B.drop p).take 8)
def szS (B : List Int) (p : Nat) : Int := leV ((B.drop (p + 8)).take 8)
def okHead (B : List Int) (p : Nat) : Prop := p + 16 ≤ B.length ∧ p % 8 = 0 ∧ 1 ≤ kdS B p ∧ kdS B p ≤ 4 ∧ 16 + 8 * wn (kdS B p) ≤ szS B p ∧ (p : Int) + szS B p ≤ (B.length : Int)
def nS (B : List Int) (p : Nat) : Nat := (wn (kdS B p)).toNat
def sS (B : List Int) (p : Nat) : Nat := (szS B p).toNat
def restS (B : List Int) (p : Nat) : Nat := sS B p - (16 + 8 * nS B p)
def wsS (B : List Int) (p : Nat) : List Int := wordsAt B (p + 16) (nS B p)
def rawS (B : List Int) (p : Nat) : List Int := if kdS B p ≤ 2 then (B.drop (p + 16 + 8 * nS B p)).take (restS B p) else []
def itsS (B : List Int) (p : Nat) : List Int := if kdS B p ≤ 2 then [] else wordsAt B (p + 16 + 8 * nS B p) (restS B p / 8)
def okRest (B : List Int) (p : Nat) : Prop := p + al8 (sS B p) ≤ B.length ∧ rightB (kdS B p) (nS B p) (rawS B p).length (itsS B p).length = true ∧ (kdS B p ≤ 2 ∨ restS B p % 8 = 0) ∧ ∀ x ∈ (B.drop (p + sS B p)).take (al8 (sS B p) - sS B p), x = 0
instance (B : List Int) (p : Nat) : Decidable (okHead B p) := by unfold okHead; infer_instance
instance (B : List Int) (p : Nat) : Decidable (okRest B p) := by unfold okRest; infer_instance
abbrev DecT : Type := Int × List Int × List Int × List Int × Int × Bool
def badD : DecT := (0, [], [], [], 0, false)
def decS (B : List Int) (a : Int) : DecT :=
  if 0 ≤ a ∧ okHead B a.toNat ∧ okRest B a.toNat then (kdS B a.toNat, wsS B a.toNat, rawS B a.toNat, itsS B a.toNat, ((a.toNat + al8 (sS B a.toNat) : Nat) : Int), true) else badD
theorem decS_nat (B : List Int) (p : Nat) : decS B (p : Int) = if okHead B p ∧ okRest B p then (kdS B p, wsS B p, rawS B p, itsS B p, ((p + al8 (sS B p) : Nat) : Int), true) else badD := by
  unfold decS
  rw [Int.toNat_natCast]
  by_cases h : okHead B p ∧ okRest B p
  · rw [if_pos h, if_pos ⟨by omega, h⟩]
  · rw [if_neg h, if_neg (fun g => h g.2)]
theorem decS_neg (B : List Int) {a : Int} (h : a < 0) : decS B a = badD := if_neg (fun g => by omega)
theorem decS_noHead {B : List Int} {p : Nat} (h : ¬ okHead B p) : decS B (p : Int) = badD := by rw [decS_nat, if_neg (fun g => h g.1)]
theorem decS_noRest {B : List Int} {p : Nat} (h : ¬ okRest B p) : decS B (p : Int) = badD := by rw [decS_nat, if_neg (fun g => h g.2)]
/-! ### as the program reads it -/
theorem wordsL_tells (B : List Int) (hb : Bytes B) (hl : B.length ≤ 10000000) : ∀ (n p : Nat), p + 8 * n ≤ B.length → Ev (fun k => wordsL k B n (p : Int)) (wordsAt B p n)
  | 0, _, _ => Ev.now _
  | n + 1, p, hp => by
      have hg := leget_tells B (p : Int) hb hl (by omega)
      rw [g8_at (by omega)] at hg
      have ih := wordsL_tells B hb hl n (p + 8) (by omega)
      rw [show ((p + 8 : Nat) : Int) = (p : Int) + 8 by omega] at ih
      exact Ev.bind hg (Ev.pos rfl (Ev.bind ih (Ev.now _)))
theorem rwords_tells (B : List Int) (hb : Bytes B) (hl : B.length ≤ 10000000) (n p : Nat) (hp : p + 8 * n ≤ B.length) : Ev (fun k => le_Reader_Words.f k B (p : Int) false (n : Int)) (wordsAt B p n, (p : Int) + 8 * (n : Int), false) := by
  have hw : wrap64 ((B.length : Int) - (p : Int)) = (B.length : Int) - (p : Int) := w64 (by omega) (by omega)
  have ht : Int.tdiv ((B.length : Int) - (p : Int)) 8 = ((B.length : Int) - (p : Int)) / 8 := Int.tdiv_eq_ediv_of_nonneg (by omega)
  refine Ev.neg (by decide) (Ev.neg (by omega) (Ev.neg ?_ (Ev.pos (by omega) ?_)))
  · rw [hw, ht, w64 (by omega) (by omega)]
    omega
  · rw [Int.toNat_natCast]
    exact Ev.bind (wordsL_tells B hb hl n p hp) (Ev.now _)
theorem nz_iff : ∀ (l : List Int) (i : Nat), 0 ≤ nzAt l i ↔ ¬ ∀ x ∈ l, x = 0
  | [], i => by simp [nzAt]
  | x :: r, i => by
      unfold nzAt
      by_cases h : x = 0
      · rw [if_pos h, nz_iff r (i + 1)]
        simp [h]
      · rw [if_neg h]
        simp [h]
theorem kd_in {B : List Int} (hb : Bytes B) {p : Nat} (hp : p + 8 ≤ B.length) : 0 ≤ leV ((B.drop p).take 8) ∧ leV ((B.drop p).take 8) ≤ 18446744073709551615 :=
  leV_u64 (fun y hy => hb y (List.mem_of_mem_drop (List.mem_of_mem_take hy))) (by rw [List.length_take, List.length_drop]; omega)
theorem tmod8 {p : Nat} : Int.tmod (p : Int) 8 = 0 ↔ p % 8 = 0 := by
  rw [Int.tmod_eq_emod_of_nonneg (by omega)]
  omega
theorem frame_no (B : List Int) (a : Int) (hb : Bytes B) (hl : B.length ≤ 3000) (ha : -9223372036854775808 ≤ a ∧ a ≤ 9223372036854775807) (h : ¬ (0 ≤ a ∧ okHead B a.toNat ∧ a.toNat + al8 (sS B a.toNat) ≤ B.length)) : Ev (fun k => obj_frame.f k B a) (0, 0, false) := by
  have hend : ∀ x, Ev (fun k => obj_frame.j0 k B a x true) (0, 0, false) := fun x => Ev.step (fun k => obj_frame.j0.eq_2 _ _ _ _ _) (Ev.pos rfl (Ev.now _))
  refine Ev.bind (leget_tells B a hb (by omega) ha) ?_
  by_cases h8 : 0 ≤ a ∧ a + 8 ≤ (B.length : Int)
  case neg =>
    rw [g8_no h8]
    exact Ev.neg (by decide) (hend _)
  obtain ⟨p, rfl⟩ := Int.eq_ofNat_of_zero_le h8.1
  rw [Int.toNat_natCast] at h
  have hp8 : p + 8 ≤ B.length := by omega
  have hk := kd_in hb hp8
  rw [g8_at hp8]
  refine Ev.pos rfl (Ev.both (fun hm => ?_) (fun _ => hend _))
  have hm8 := tmod8.1 hm
  refine Ev.both (fun _ => hend _) (fun h1 => ?_)
  by_cases h4 : leV ((B.drop p).take 8) > 4
  · rw [decide_eq_true h4]
    exact hend _
  rw [decide_eq_false h4]
  refine Ev.step (fun k => obj_frame.j0.eq_2 _ _ _ _ _) (Ev.neg (by decide) ?_)
  rw [w64 (x := (p : Int) + 8) (by omega) (by omega)]
  refine Ev.bind (leget_tells B ((p : Int) + 8) hb (by omega) (by omega)) ?_
  by_cases h16 : p + 16 ≤ B.length
  case neg =>
    rw [g8_no (by omega)]
    exact Ev.neg (by decide) (Ev.now _)
  rw [show (p : Int) + 8 = ((p + 8 : Nat) : Int) by omega, g8_at (by omega)]
  have hs := kd_in hb (p := p + 8) (by omega)
  refine Ev.pos rfl ?_
  rw [w64 (x := (B.length : Int) - (p : Int)) (by omega) (by omega), wu64 (x := (B.length : Int) - (p : Int)) (by omega) (by omega)]
  refine Ev.both (fun _ => Ev.now _) (fun h5 => ?_)
  dsimp only at h1 h4 h5
  rw [w64 (x := leV ((B.drop p).take 8)) (by omega) (by omega), w64 (x := leV ((B.drop (p + 8)).take 8)) (by omega) (by omega)]
  refine Ev.bind (front_tells _) (Ev.both (fun _ => Ev.now _) (fun h6 => ?_))
  have hhead : okHead B p := ⟨h16, hm8, by unfold kdS; omega, by unfold kdS; omega, by unfold kdS szS; omega, by unfold szS; omega⟩
  have hsz : leV ((B.drop (p + 8)).take 8) = ((sS B p : Nat) : Int) := by unfold sS szS; omega
  rw [hsz]
  have hal := align_tells (sS B p) (by unfold sS szS; omega)
  refine Ev.bindc hal (Ev.both (fun _ => Ev.now _) (fun h7 => ?_))
  exact absurd ⟨h8.1, hhead, by omega⟩ h
theorem frame_yes (B : List Int) (p : Nat) (hb : Bytes B) (hl : B.length ≤ 3000) (h : okHead B p) (h2 : p + al8 (sS B p) ≤ B.length) : Ev (fun k => obj_frame.f k B (p : Int)) (kdS B p, szS B p, true) := by
  obtain ⟨q1, q2, q3, q4, q5, q6⟩ := h
  have hk := kd_in hb (p := p) (by omega)
  have hs := kd_in hb (p := p + 8) (by omega)
  have hw := wn_in (kdS B p)
  refine Ev.bind (leget_tells B (p : Int) hb (by omega) (by omega)) ?_
  rw [g8_at (by omega)]
  refine Ev.pos rfl (Ev.pos (tmod8.2 q2) (Ev.neg (show ¬ kdS B p < 1 by omega) ?_))
  rw [show decide (leV ((B.drop p).take 8) > 4) = false from decide_eq_false (show ¬ kdS B p > 4 by omega)]
  refine Ev.step (fun k => obj_frame.j0.eq_2 _ _ _ _ _) (Ev.neg (by decide) ?_)
  rw [w64 (x := (p : Int) + 8) (by omega) (by omega)]
  refine Ev.bind (leget_tells B ((p : Int) + 8) hb (by omega) (by omega)) ?_
  rw [show (p : Int) + 8 = ((p + 8 : Nat) : Int) by omega, g8_at (by omega)]
  refine Ev.pos rfl ?_
  rw [w64 (x := (B.length : Int) - (p : Int)) (by omega) (by omega), wu64 (x := (B.length : Int) - (p : Int)) (by omega) (by omega)]
  have hsz : leV ((B.drop (p + 8)).take 8) = szS B p := rfl
  have hkd : leV ((B.drop p).take 8) = kdS B p := rfl
  dsimp only
  rw [hsz, hkd] at *
  refine Ev.neg (by omega) ?_
  rw [w64 (x := kdS B p) (by omega) (by omega), w64 (x := szS B p) (by omega) (by omega)]
  refine Ev.bind (front_tells _) (Ev.neg (by omega) ?_)
  have hss : szS B p = ((sS B p : Nat) : Int) := by unfold sS; omega
  rw [hss]
  refine Ev.bindc (align_tells (sS B p) (by omega)) (Ev.neg (by omega) (Ev.now _))
theorem rraw_tells (B : List Int) (hl : B.length ≤ 3000) (p n : Nat) (hp : p + n ≤ B.length) : le_Reader_Raw.f B (p : Int) false (n : Int) = some ((B.drop p).take n, (p : Int) + (n : Int), false) := by
  unfold le_Reader_Raw.f
  rw [if_neg (by decide), if_neg (by omega), w64 (by omega) (by omega), if_neg (by omega), if_pos (by omega)]
  congr 3
  rw [show ((p : Int) + (n : Int)).toNat = p + n by omega, Int.toNat_natCast, List.drop_take]
  congr 1
  omega
theorem decRest_tells (B : List Int) (p : Nat) (hb : Bytes B) (hl : B.length ≤ 3000) (h : okHead B p) : Ev (fun k => decRest k B ((p : Int) + 16 + 8 * (nS B p : Int)) false (kdS B p) (restS B p : Int)) (rawS B p, itsS B p) := by
  obtain ⟨q1, q2, q3, q4, q5, q6⟩ := h
  have hw := wn_in (kdS B p)
  have hn : (nS B p : Int) = wn (kdS B p) := by unfold nS; omega
  have hr : p + 16 + 8 * nS B p + restS B p ≤ B.length := by unfold restS sS; omega
  rw [show (p : Int) + 16 + 8 * (nS B p : Int) = ((p + 16 + 8 * nS B p : Nat) : Int) by omega]
  unfold rawS itsS
  by_cases hk : kdS B p ≤ 2
  · rw [if_pos hk, if_pos hk]
    refine Ev.pos (by omega) ?_
    exact Ev.bindc (rraw_tells B hl _ _ hr) (Ev.now _)
  · rw [if_neg hk, if_neg hk]
    refine Ev.neg (by omega) ?_
    have ht : wrap64 (Int.tdiv (restS B p : Int) 8) = ((restS B p / 8 : Nat) : Int) := by
      rw [Int.tdiv_eq_ediv_of_nonneg (by omega), w64 (by omega) (by omega)]
      omega
    rw [ht]
    exact Ev.bind (rwords_tells B hb (by omega) (restS B p / 8) (p + 16 + 8 * nS B p) (by omega)) (Ev.now _)
theorem decEnd_tells (B : List Int) (p : Nat) (hl : B.length ≤ 3000) (h : okHead B p) (h2 : p + al8 (sS B p) ≤ B.length) :
    decEnd B (p : Int) (kdS B p) (wsS B p) (rawS B p) (itsS B p) (sS B p : Int) (restS B p : Int) ((p + al8 (sS B p) : Nat) : Int) (rightB (kdS B p) (nS B p) (rawS B p).length (itsS B p).length) = some (decS B (p : Int)) := by
  have hq := h
  obtain ⟨q1, q2, q3, q4, q5, q6⟩ := h
  have hs : szS B p = (sS B p : Int) := by unfold sS; have := wn_in (kdS B p); omega
  unfold decEnd
  rw [decS_nat]
  by_cases hr : rightB (kdS B p) (nS B p) (rawS B p).length (itsS B p).length = true
  case neg =>
    rw [if_pos (by simpa using hr), if_neg (fun g => hr g.2.2.1)]
    rfl
  rw [if_neg (by simp [hr])]
  have h12 : (kdS B p = 1 ∨ kdS B p = 2) ↔ kdS B p ≤ 2 := by omega
  have ht : Int.tmod (restS B p : Int) 8 = 0 ↔ restS B p % 8 = 0 := by
    rw [Int.tmod_eq_emod_of_nonneg (by omega)]
    omega
  by_cases h3 : kdS B p ≤ 2 ∨ restS B p % 8 = 0
  case neg =>
    rw [if_pos (by rw [h12]; omega), if_neg (fun g => h3 g.2.2.2.1)]
    rfl
  rw [if_neg (by rw [h12]; omega), w64 (x := (p : Int) + (sS B p : Int)) (by omega) (by omega)]
  have hal : sS B p ≤ al8 (sS B p) := by unfold al8; omega
  rw [if_pos ⟨by omega, by omega, by omega⟩]
  have e : (B.take ((p + al8 (sS B p) : Nat) : Int).toNat).drop ((p : Int) + (sS B p : Int)).toNat = (B.drop (p + sS B p)).take (al8 (sS B p) - sS B p) := by
    rw [Int.toNat_natCast, show ((p : Int) + (sS B p : Int)).toNat = p + sS B p by omega, List.drop_take]
    congr 1
    omega
  rw [e]
  by_cases hz : ∀ x ∈ (B.drop (p + sS B p)).take (al8 (sS B p) - sS B p), x = 0
  · rw [if_neg (fun g => (nz_iff _ _).1 g hz), if_pos ⟨hq, h2, hr, h3, hz⟩]
  · rw [if_pos ((nz_iff _ _).2 hz), if_neg (fun g => hz g.2.2.2.2)]
    rfl
theorem dec_tells (B : List Int) (a : Int) (hb : Bytes B) (hl : B.length ≤ 3000) (ha : -9223372036854775808 ≤ a ∧ a ≤ 9223372036854775807) : Ev (fun k => obj_Decode.f k B a) (decS B a) := by
  by_cases hF : 0 ≤ a ∧ okHead B a.toNat ∧ a.toNat + al8 (sS B a.toNat) ≤ B.length
  case neg =>
    have e : decS B a = badD := if_neg (fun g => hF ⟨g.1, g.2.1, g.2.2.1⟩)
    rw [e]
    exact Ev.bind (frame_no B a hb hl ha hF) (Ev.neg (by decide) (Ev.now _))
  obtain ⟨h0, hh, h2⟩ := hF
  obtain ⟨p, rfl⟩ := Int.eq_ofNat_of_zero_le h0
  rw [Int.toNat_natCast] at hh h2
  have hq := hh
  obtain ⟨q1, q2, q3, q4, q5, q6⟩ := hq
  have hw := wn_in (kdS B p)
  have hn : wn (kdS B p) = (nS B p : Int) := by unfold nS; omega
  have hs : szS B p = (sS B p : Int) := by unfold sS; omega
  have hrest : sS B p = 16 + 8 * nS B p + restS B p := by unfold restS; omega
  refine Ev.bind (frame_yes B p hb hl hh h2) (Ev.pos rfl (Ev.pos ?_ (Ev.bind (words_tells _) ?_)))
  · rw [w64 (by omega) (by omega)]
    omega
  rw [w64 (x := (p : Int) + 16) (by omega) (by omega), hn, show (p : Int) + 16 = ((p + 16 : Nat) : Int) by omega]
  refine Ev.bind (rwords_tells B hb (by omega) (nS B p) (p + 16) (by omega)) (Ev.bind (front_tells _) ?_)
  dsimp only
  rw [hn, hs, w64 (x := (sS B p : Int) - (16 + 8 * (nS B p : Int))) (by omega) (by omega), show (sS B p : Int) - (16 + 8 * (nS B p : Int)) = (restS B p : Int) by omega, show ((p + 16 : Nat) : Int) = (p : Int) + 16 by omega]
  refine Ev.bind (decRest_tells B p hb hl hh) (Ev.bindc (align_tells (sS B p) (by omega)) ?_)
  have hr := right_tells (kdS B p) (wsS B p) (rawS B p) (itsS B p)
  rw [show (wsS B p).length = nS B p from wordsAt_length _ _ _] at hr
  refine Ev.bind hr ?_
  rw [w64 (x := (p : Int) + (al8 (sS B p) : Int)) (by omega) (by omega), show (p : Int) + (al8 (sS B p) : Int) = ((p + al8 (sS B p) : Nat) : Int) by omega]
  exact Ev.fix (decEnd_tells B p hl hh h2)
end Go.Proofs.Ytldoaommikclbaa.SBScanObjects
