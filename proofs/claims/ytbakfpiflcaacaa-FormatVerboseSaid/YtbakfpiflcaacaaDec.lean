/- Decimal digits of a number, as a list of bytes; in plain Lean. -/
import Derived.Test.YtbakfpiflcaacaaStr
import Derived.Test.YtbakfpiflcaacaaEvs
namespace Go.Proofs.Ytbakfpiflcaacaa.Dec
open Go.RowKit Go.Proofs.YtbakfpiflcaacaaW.PrintWords Go.Proofs.Ytbakfpiflcaacaa.Str
set_option linter.unusedVariables false
set_option linter.unusedSimpArgs false

/-- The digits of a number below 10 ^ d. -/
def decF : Nat → Int → List Int
  | 0, _ => []
  | d + 1, n => if n < 10 then [48 + n] else decF d (n / 10) ++ [48 + n % 10]
theorem decF_small {d : Nat} {n : Int} (h : n < 10) : decF (d + 1) n = [48 + n] := if_pos h
theorem decF_big {d : Nat} {n : Int} (h : ¬ n < 10) : decF (d + 1) n = decF d (n / 10) ++ [48 + n % 10] := if_neg h
theorem pow_lt {d : Nat} {n : Int} (h : n < 10 ^ (d + 1)) : n / 10 < 10 ^ d := by
  rw [Int.pow_succ] at h
  omega
theorem decF_len : ∀ (d : Nat) (n : Int), (decF d n).length ≤ d
  | 0, _ => Nat.le_refl _
  | d + 1, n => by
    by_cases h : n < 10
    · rw [decF_small h]
      simp
    · rw [decF_big h]
      have := decF_len d (n / 10)
      simp
      omega
/-- What digits say. -/
def valF (a : Int) (l : List Int) : Int := l.foldl (fun a c => 10 * a + (c - 48)) a
def Digits (l : List Int) : Prop := ∀ x ∈ l, 48 ≤ x ∧ x ≤ 57
end Go.Proofs.Ytbakfpiflcaacaa.Dec
