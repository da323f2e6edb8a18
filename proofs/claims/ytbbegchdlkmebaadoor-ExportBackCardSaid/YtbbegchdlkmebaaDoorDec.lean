/- Decimal digits of a number, as a list of bytes; in plain Lean. -/
import Derived.Test.YtbbegchdlkmebaaDoorStr
import Derived.Test.YtbbegchdlkmebaaDoorEvs
namespace Go.Proofs.YtbbegchdlkmebaaDoor.Dec
open Go.RowKit Go.Proofs.YtbbegchdlkmebaaDoorW.PrintWords Go.Proofs.YtbbegchdlkmebaaDoor.Str
set_option linter.unusedVariables false
set_option linter.unusedSimpArgs false

/-- The digits of a number below 10 ^ d. -/
def decF : Nat → Int → List Int
  | 0, _ => []
  | d + 1, n => if n < 10 then [48 + n] else decF d (n / 10) ++ [48 + n % 10]
theorem decF_small {d : Nat} {n : Int} (h : n < 10) : decF (d + 1) n = [48 + n] := if_pos h
theorem decF_big {d : Nat} {n : Int} (h : ¬ n < 10) : decF (d + 1) n = decF d (n / 10) ++ [48 + n % 10] := if_neg h
theorem pow_lt {d : Nat} {n : Int} (h : n < 10 ^ (d + 1)) : n / 10 < 10 ^ d := by
  rw [Int.pow_succ] at h
  omega
theorem decF_bytes : ∀ (d : Nat) (n : Int), 0 ≤ n → ∀ x ∈ decF d n, 48 ≤ x ∧ x ≤ 57
  | 0, _, _, x, hx => by cases hx
  | d + 1, n, h0, x, hx => by
    by_cases h : n < 10
    · rw [decF_small h] at hx
      rw [List.mem_singleton.1 hx]
      omega
    · rw [decF_big h, List.mem_append] at hx
      rcases hx with hx | hx
      · exact decF_bytes d _ (by omega) x hx
      · rw [List.mem_singleton.1 hx]
        omega
theorem decF_Bytes (d : Nat) (n : Int) (h0 : 0 ≤ n) : Bytes (decF d n) := fun x hx => by
  have := decF_bytes d n h0 x hx
  omega
theorem decF_len : ∀ (d : Nat) (n : Int), (decF d n).length ≤ d
  | 0, _ => Nat.le_refl _
  | d + 1, n => by
    by_cases h : n < 10
    · rw [decF_small h]
      simp
    · rw [decF_big h]
      have := decF_len d (n / 10)
      simp
      omega
theorem decF_ne : ∀ (d : Nat) (n : Int), decF (d + 1) n ≠ []
  | d, n => by
    by_cases h : n < 10
    · rw [decF_small h]
      simp
    · rw [decF_big h]
      simp
/-- The first digit is no nought, but for 0 itself. -/
theorem decF_head : ∀ (d : Nat) (n : Int), 1 ≤ n → n < 10 ^ d → ∃ c r, decF d n = c :: r ∧ c ≠ 48
  | 0, n, h0, hn => by
    simp at hn
    omega
  | d + 1, n, h0, hn => by
    by_cases h : n < 10
    · exact ⟨48 + n, [], decF_small h, by omega⟩
    · obtain ⟨c, r, e, hc⟩ := decF_head d (n / 10) (by omega) (pow_lt hn)
      exact ⟨c, r ++ [48 + n % 10], by rw [decF_big h, e]; rfl, hc⟩

/-- What digits say. -/
def valF (a : Int) (l : List Int) : Int := l.foldl (fun a c => 10 * a + (c - 48)) a
theorem valF_snoc (a : Int) (l : List Int) (c : Int) : valF a (l ++ [c]) = 10 * valF a l + (c - 48) := by simp [valF]
def Digits (l : List Int) : Prop := ∀ x ∈ l, 48 ≤ x ∧ x ≤ 57
theorem snoc_cases (l : List Int) : l = [] ∨ ∃ r c, l = r ++ [c] := by
  rcases List.eq_nil_or_concat l with h | ⟨r, c, h⟩
  · exact .inl h
  · exact .inr ⟨r, c, by simpa using h⟩
theorem valF_pos {c : Int} {r : List Int} (hd : Digits (c :: r)) (hc : c ≠ 48) : 1 ≤ valF 0 (c :: r) := by
  have h1 := hd c (by simp)
  have : ∀ (l : List Int) (a : Int), Digits l → 1 ≤ a → 1 ≤ valF a l := by
    intro l
    induction l with
    | nil => intro a _ h; exact h
    | cons x l ih =>
      intro a hd h
      have h2 := hd x (by simp)
      exact ih (10 * a + (x - 48)) (fun y hy => hd y (by simp [hy])) (by omega)
  exact this r (10 * 0 + (c - 48)) (fun x hx => hd x (by simp [hx])) (by omega)
/-- Digits without a nought ahead are the digits of what they say. -/
theorem dec_valF : ∀ (d : Nat) (l : List Int), l.length ≤ d → l ≠ [] → Digits l → (∀ c r, l = c :: r → c = 48 → r = []) → decF d (valF 0 l) = l
  | 0, l, hl, hne, _, _ => absurd (List.eq_nil_of_length_eq_zero (by omega)) hne
  | d + 1, l, hl, hne, hd, hz => by
    rcases snoc_cases l with rfl | ⟨r, c, rfl⟩
    · exact absurd rfl hne
    have hc := hd c (by simp)
    have hdr : Digits r := fun x hx => hd x (by simp [hx])
    rw [valF_snoc]
    match r, hdr with
    | [], _ => 
      rw [show valF 0 [] = 0 from rfl, decF_small (by omega)]
      simp
      omega
    | x :: r, hdr =>
      have hx : x ≠ 48 := fun e => by
        have := hz x (r ++ [c]) rfl e
        simp at this
      have hp := valF_pos hdr hx
      generalize hv : valF 0 (x :: r) = v at hp
      rw [decF_big (by omega), show (10 * v + (c - 48)) / 10 = v by omega, show (10 * v + (c - 48)) % 10 = c - 48 by omega, ← hv,
        dec_valF d (x :: r) (by simp at hl ⊢; omega) (by simp) hdr (fun a b e ha => by
          injection e with e1 e2
          exact absurd (e1.trans ha) hx)]
      congr 2
      omega
end Go.Proofs.YtbbegchdlkmebaaDoor.Dec
