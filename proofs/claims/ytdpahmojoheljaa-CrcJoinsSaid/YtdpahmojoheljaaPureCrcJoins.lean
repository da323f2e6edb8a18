/- CrcJoins: the sum of one text behind another one is that of the second, added to the first one's: in plain Lean. -/
import Derived.Test.YtdpahmojoheljaaPCrcJoinsx1
import Derived.Test.YtdpahmojoheljaaEvs
namespace Go.Proofs.Ytdpahmojoheljaa.PureCrcJoins
open Go.RowKit Go.Proofs.Ytdpahmojoheljaa.PCrcJoins Go.Proofs.YtdpahmojoheljaaW.PrintWords Go.Proofs.YtdpahmojoheljaaW.PrintLast Go.Proofs.YtdpahmojoheljaaW.PrintMore Go.Proofs.Ytdpahmojoheljaa.Evs
set_option linter.unusedVariables false
set_option linter.unusedSimpArgs false
/-! ### the sum, bit by bit and byte by byte -/
def nBit (c : Nat) : Nat := if c % 2 = 1 then (c / 2) ^^^ 3988292384 else c / 2
def nEnt : Nat → Nat → Nat
  | 0, c => c
  | k + 1, c => nEnt k (nBit c)
theorem nBit_lt {c : Nat} (h : c < 4294967296) : nBit c < 4294967296 := by
  unfold nBit
  by_cases hc : c % 2 = 1
  · rw [if_pos hc]
    exact Nat.xor_lt_two_pow (n := 32) (by omega) (by omega)
  · rw [if_neg hc]
    omega
theorem nEnt_lt : ∀ (k : Nat) {c : Nat}, c < 4294967296 → nEnt k c < 4294967296
  | 0, _, h => h
  | k + 1, _, h => nEnt_lt k (nBit_lt h)
theorem cBit_nat {c : Nat} (h : c < 4294967296) : cBit (c : Int) = (nBit c : Nat) := by
  unfold cBit nBit
  by_cases hc : c % 2 = 1
  · rw [if_pos hc, if_pos (by omega), show ((c : Int) / 2) = ((c / 2 : Nat) : Int) by omega]
    exact u32_xor_nat (c / 2) 3988292384 (by omega) (by omega)
  · rw [if_neg hc, if_neg (by omega)]
    omega
theorem cEnt_nat : ∀ (k : Nat) {c : Nat}, c < 4294967296 → cEnt k (c : Int) = (nEnt k c : Nat)
  | 0, _, _ => rfl
  | k + 1, c, h => by
    rw [cEnt, cBit_nat h, cEnt_nat k (nBit_lt h)]
    rfl
theorem xor_even_mod (x z : Nat) : (x ^^^ (2 * z)) % 2 = x % 2 := by
  have := Nat.xor_mod_two_pow (a := x) (b := 2 * z) (n := 1)
  simpa using this
theorem xor_even_div (x z : Nat) : (x ^^^ (2 * z)) / 2 = x / 2 ^^^ z := by
  have := Nat.xor_div_two_pow (a := x) (b := 2 * z) (n := 1)
  simpa using this
theorem nBit_xor (x z : Nat) : nBit (x ^^^ (2 * z)) = nBit x ^^^ z := by
  unfold nBit
  rw [xor_even_mod, xor_even_div]
  by_cases hc : x % 2 = 1
  · rw [if_pos hc, if_pos hc, Nat.xor_assoc, Nat.xor_comm z, ← Nat.xor_assoc]
  · rw [if_neg hc, if_neg hc]
theorem nEnt_xor : ∀ (k x z : Nat), nEnt k (x ^^^ (2 ^ k * z)) = nEnt k x ^^^ z
  | 0, x, z => by simp [nEnt]
  | k + 1, x, z => by
    rw [nEnt, nEnt, show 2 ^ (k + 1) * z = 2 * (2 ^ k * z) by rw [Nat.pow_succ]; ac_rfl, nBit_xor, nEnt_xor k]
theorem xor_split (c x : Nat) (hx : x < 256) : c ^^^ x = (c % 256 ^^^ x) ^^^ (2 ^ 8 * (c / 256)) := by
  apply Nat.eq_of_testBit_eq
  intro i
  rw [Nat.testBit_xor, Nat.testBit_xor, Nat.testBit_xor, Nat.testBit_two_pow_mul, show c % 256 = c % 2 ^ 8 from rfl, Nat.testBit_mod_two_pow, show c / 256 = c / 2 ^ 8 from rfl, Nat.testBit_div_two_pow]
  by_cases hi : i < 8
  · simp [hi, show ¬ 8 ≤ i by omega]
  · have hz : x.testBit i = false := Nat.testBit_lt_two_pow (Nat.lt_of_lt_of_le hx (Nat.pow_le_pow_right (n := 2) (i := 8) (j := i) (by omega) (by omega)))
    simp [hi, show 8 ≤ i by omega, hz, show i - 8 + 8 = i by omega]
theorem nEnt_step (c x : Nat) (hx : x < 256) : nEnt 8 (c ^^^ x) = nEnt 8 (c % 256 ^^^ x) ^^^ c / 256 := by
  rw [xor_split c x hx, nEnt_xor]
theorem u32max : IntKind.u32.max = 4294967295 := by decide
theorem step_nat {c x : Nat} (hc : c < 4294967296) (hx : x < 256) : crcStep (c : Int) (x : Int) = (nEnt 8 (c ^^^ x) : Nat) := by
  unfold crcStep tabAt
  have hm : c % 256 < 256 := Nat.mod_lt _ (by omega)
  have hx8 : c % 256 ^^^ x < 2 ^ 8 := Nat.xor_lt_two_pow (by omega) (by omega)
  rw [show (c : Int) % 256 = ((c % 256 : Nat) : Int) by omega, u8_xor_nat _ _ (by omega) hx, Int.toNat_natCast, cEnt_nat 8 (by omega), show (c : Int) / 256 = ((c / 256 : Nat) : Int) by omega, u32_xor_nat _ _ (nEnt_lt 8 (by omega)) (by omega), nEnt_step c x hx]
theorem xor_flip {a b : Int} (ha : U32 a) (hb : U32 b) : bits .xor .u32 a b = bits .xor .u32 b a := by
  obtain ⟨A, rfl⟩ := Int.eq_ofNat_of_zero_le ha.1
  obtain ⟨B, rfl⟩ := Int.eq_ofNat_of_zero_le hb.1
  have h1 := ha.2
  have h2 := hb.2
  rw [u32_xor_nat A B (by omega) (by omega), u32_xor_nat B A (by omega) (by omega), Nat.xor_comm]
theorem xor_twice {a b : Int} (ha : U32 a) (hb : U32 b) : bits .xor .u32 a (bits .xor .u32 a b) = b := by
  obtain ⟨A, rfl⟩ := Int.eq_ofNat_of_zero_le ha.1
  obtain ⟨B, rfl⟩ := Int.eq_ofNat_of_zero_le hb.1
  have h1 := ha.2
  have h2 := hb.2
  have hx : A ^^^ B < 2 ^ 32 := Nat.xor_lt_two_pow (by omega) (by omega)
  rw [u32_xor_nat A B (by omega) (by omega), u32_xor_nat A _ (by omega) (by omega), ← Nat.xor_assoc, Nat.xor_self, Nat.zero_xor]
theorem step_in {c x : Int} (hc : U32 c) (hx : 0 ≤ x ∧ x ≤ 255) : cEnt 8 (bits .xor .u32 c (x % 4294967296)) = crcStep c x := by
  obtain ⟨C, rfl⟩ := Int.eq_ofNat_of_zero_le hc.1
  obtain ⟨X, rfl⟩ := Int.eq_ofNat_of_zero_le hx.1
  have h1 := hc.2
  have h2 := hx.2
  have hx : C ^^^ X < 2 ^ 32 := Nat.xor_lt_two_pow (by omega) (by omega)
  rw [show (X : Int) % 4294967296 = (X : Int) by omega, u32_xor_nat C X (by omega) (by omega), cEnt_nat 8 (by omega), step_nat (by omega) (by omega)]
theorem ones : U32 IntKind.u32.max := ⟨by decide, by decide⟩
theorem add_in (s : Int) (hs : U32 s) (l : List Int) (hx : ∀ x ∈ l, 0 ≤ x ∧ x ≤ 255) : U32 (crcAdd s l) := xor_in ones (fold_in l _ (xor_in ones hs) hx)
theorem add_join (a b : List Int) (ha : ∀ x ∈ a, 0 ≤ x ∧ x ≤ 255) : crcAdd 0 (a ++ b) = crcAdd (crcAdd 0 a) b := by
  unfold crcAdd
  rw [List.foldl_append, xor_twice ones (fold_in a _ (xor_in ones ⟨by decide, by decide⟩) ha)]
theorem CrcJoins (y0 : List Int) (y1 : List Int) (w0 : (y0.length ≤ maxLen ∧ y0.length * 1 ≤ 140737488351232 ∧ ∀ x ∈ y0, (Lit.int .u8 x).wf = true)) (w1 : (y1.length ≤ maxLen ∧ y1.length * 1 ≤ 140737488351232 ∧ ∀ x ∈ y1, (Lit.int .u8 x).wf = true)) : ∃ k, logbooklaw03_CrcJoins.f k y0 y1 = some true := by
  refine ⟨0, ?_⟩
  unfold logbooklaw03_CrcJoins.f
  by_cases hl : 2000 < y0.length ∨ 2000 < y1.length
  · rw [if_pos hl]
  · have hx : ∀ x ∈ y0, 0 ≤ x ∧ x ≤ 255 := fun x hx => wf_u8 (w0.2.2 x hx)
    have hy : ∀ x ∈ y1, 0 ≤ x ∧ x ≤ 255 := fun x hx => wf_u8 (w1.2.2 x hx)
    have hi := add_in 0 ⟨by decide, by decide⟩ y0 hx
    rw [if_neg hl, if_pos ⟨List.all_eq_true.2 (fun x h => decide_eq_true (hx x h)), List.all_eq_true.2 (fun x h => decide_eq_true (hy x h)), hi.1, hi.2, add_join y0 y1 hx⟩]
end Go.Proofs.Ytdpahmojoheljaa.PureCrcJoins
