/- Numbers in sixteen digits, with and without noughts ahead, as lists of bytes; in plain Lean. -/
import Derived.Test.YtbakfpiflcaacaaStr
import Derived.Test.YtbakfpiflcaacaaEvs
namespace Go.Proofs.Ytbakfpiflcaacaa.Hex
open Go.RowKit Go.Proofs.YtbakfpiflcaacaaW.PrintWords Go.Proofs.Ytbakfpiflcaacaa.Str Go.Proofs.Ytbakfpiflcaacaa.Conv
set_option linter.unusedVariables false
set_option linter.unusedSimpArgs false

def hexF : Nat → Int → List Int
  | 0, _ => []
  | d + 1, n => hexF d (n / 16) ++ [digX (n % 16)]
theorem hexF_len : ∀ d n, (hexF d n).length = d
  | 0, _ => rfl
  | d + 1, n => by rw [hexF, List.length_append, hexF_len d (n / 16)]; rfl
theorem div_pow (n : Int) (i : Nat) : n / 16 / 16 ^ i = n / 16 ^ (i + 1) := by
  rw [Int.ediv_ediv_of_nonneg (by decide), Int.pow_succ, Int.mul_comm]
theorem hexF_range : ∀ d n, hexF d n = (List.range d).map (fun j => digX (n / 16 ^ (d - 1 - j) % 16))
  | 0, _ => rfl
  | d + 1, n => by
    rw [hexF, hexF_range d (n / 16), List.range_succ, List.map_append]
    congr 1
    · refine List.map_congr_left fun j hj => ?_
      have hj := List.mem_range.1 hj
      rw [div_pow, show d - 1 - j + 1 = d + 1 - 1 - j by omega]
    · show _ = [digX (n / 16 ^ (d + 1 - 1 - d) % 16)]
      rw [show d + 1 - 1 - d = 0 by omega, Int.pow_zero, Int.ediv_one]
theorem hexL_F (n : Int) : hexL n = hexF 16 n := by
  rw [hexF_range]
  rfl
def hv (c : Int) : Int := if c ≤ 57 then c - 48 else c - 87
def isX (c : Int) : Bool := decide (48 ≤ c ∧ c ≤ 57) || decide (97 ≤ c ∧ c ≤ 102)
def vx (a : Int) (l : List Int) : Int := l.foldl (fun a c => 16 * a + hv c) a
theorem hexL_len (n : Int) : (hexL n).length = 16 := by rw [hexL_F, hexF_len]
/-! ### without noughts ahead -/
def trim0 (l : List Int) : List Int := l.dropWhile (· == 48)
def hexS (n : Int) : List Int := if trim0 (hexL n) = [] then [48] else trim0 (hexL n)
/-! ### a cursor's text -/
def pieceK (key : Int) (l : List Int) : List Int := key :: 61 :: l
def textL (a b c d e f : Int) : List Int :=
  pieceK 115 (hexL a) ++ 59 :: (pieceK 105 (hexS b) ++ 59 :: (pieceK 98 (hexL c) ++ 59 :: (pieceK 109 (hexS d) ++ 59 :: (pieceK 116 (hexS e) ++ 59 :: pieceK 120 (hexS f)))))
def U64 (n : Int) : Prop := 0 ≤ n ∧ n ≤ 18446744073709551615
end Go.Proofs.Ytbakfpiflcaacaa.Hex
