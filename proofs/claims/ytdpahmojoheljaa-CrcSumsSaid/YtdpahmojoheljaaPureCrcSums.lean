/- CrcSums: the sum by the table is the document's, bit by bit: in plain Lean. -/
import Derived.Test.YtdpahmojoheljaaPCrcSumsx1
import Derived.Test.YtdpahmojoheljaaEvs
namespace Go.Proofs.Ytdpahmojoheljaa.PureCrcSums
open Go.RowKit Go.Proofs.Ytdpahmojoheljaa.PCrcSums Go.Proofs.YtdpahmojoheljaaW.PrintWords Go.Proofs.YtdpahmojoheljaaW.PrintLast Go.Proofs.YtdpahmojoheljaaW.PrintMore Go.Proofs.Ytdpahmojoheljaa.Evs
set_option linter.unusedVariables false
set_option linter.unusedSimpArgs false
/-! ### the sum, bit by bit and byte by byte -/
def nBit (c : Nat) : Nat := if c % 2 = 1 then (c / 2) ^^^ 3988292384 else c / 2
def nEnt : Nat → Nat → Nat
  | 0, c => c
  | k + 1, c => nEnt k (nBit c)
theorem nBit_lt {c : Nat} (h : c < 4294967296) : nBit c < 4294967296 := by
  unfold nBit
  by_cases hc : c % 2 = 1
  · rw [if_pos hc]
    exact Nat.xor_lt_two_pow (n := 32) (by omega) (by omega)
  · rw [if_neg hc]
    omega
theorem nEnt_lt : ∀ (k : Nat) {c : Nat}, c < 4294967296 → nEnt k c < 4294967296
  | 0, _, h => h
  | k + 1, _, h => nEnt_lt k (nBit_lt h)
theorem cBit_nat {c : Nat} (h : c < 4294967296) : cBit (c : Int) = (nBit c : Nat) := by
  unfold cBit nBit
  by_cases hc : c % 2 = 1
  · rw [if_pos hc, if_pos (by omega), show ((c : Int) / 2) = ((c / 2 : Nat) : Int) by omega]
    exact u32_xor_nat (c / 2) 3988292384 (by omega) (by omega)
  · rw [if_neg hc, if_neg (by omega)]
    omega
theorem cEnt_nat : ∀ (k : Nat) {c : Nat}, c < 4294967296 → cEnt k (c : Int) = (nEnt k c : Nat)
  | 0, _, _ => rfl
  | k + 1, c, h => by
    rw [cEnt, cBit_nat h, cEnt_nat k (nBit_lt h)]
    rfl
theorem xor_even_mod (x z : Nat) : (x ^^^ (2 * z)) % 2 = x % 2 := by
  have := Nat.xor_mod_two_pow (a := x) (b := 2 * z) (n := 1)
  simpa using this
theorem xor_even_div (x z : Nat) : (x ^^^ (2 * z)) / 2 = x / 2 ^^^ z := by
  have := Nat.xor_div_two_pow (a := x) (b := 2 * z) (n := 1)
  simpa using this
theorem nBit_xor (x z : Nat) : nBit (x ^^^ (2 * z)) = nBit x ^^^ z := by
  unfold nBit
  rw [xor_even_mod, xor_even_div]
  by_cases hc : x % 2 = 1
  · rw [if_pos hc, if_pos hc, Nat.xor_assoc, Nat.xor_comm z, ← Nat.xor_assoc]
  · rw [if_neg hc, if_neg hc]
theorem nEnt_xor : ∀ (k x z : Nat), nEnt k (x ^^^ (2 ^ k * z)) = nEnt k x ^^^ z
  | 0, x, z => by simp [nEnt]
  | k + 1, x, z => by
    rw [nEnt, nEnt, show 2 ^ (k + 1) * z = 2 * (2 ^ k * z) by rw [Nat.pow_succ]; ac_rfl, nBit_xor, nEnt_xor k]
theorem xor_split (c x : Nat) (hx : x < 256) : c ^^^ x = (c % 256 ^^^ x) ^^^ (2 ^ 8 * (c / 256)) := by
  apply Nat.eq_of_testBit_eq
  intro i
  rw [Nat.testBit_xor, Nat.testBit_xor, Nat.testBit_xor, Nat.testBit_two_pow_mul, show c % 256 = c % 2 ^ 8 from rfl, Nat.testBit_mod_two_pow, show c / 256 = c / 2 ^ 8 from rfl, Nat.testBit_div_two_pow]
  by_cases hi : i < 8
  · simp [hi, show ¬ 8 ≤ i by omega]
  · have hz : x.testBit i = false := Nat.testBit_lt_two_pow (Nat.lt_of_lt_of_le hx (Nat.pow_le_pow_right (n := 2) (i := 8) (j := i) (by omega) (by omega)))
    simp [hi, show 8 ≤ i by omega, hz, show i - 8 + 8 = i by omega]
theorem nEnt_step (c x : Nat) (hx : x < 256) : nEnt 8 (c ^^^ x) = nEnt 8 (c % 256 ^^^ x) ^^^ c / 256 := by
  rw [xor_split c x hx, nEnt_xor]
theorem u32max : IntKind.u32.max = 4294967295 := by decide
theorem step_nat {c x : Nat} (hc : c < 4294967296) (hx : x < 256) : crcStep (c : Int) (x : Int) = (nEnt 8 (c ^^^ x) : Nat) := by
  unfold crcStep tabAt
  have hm : c % 256 < 256 := Nat.mod_lt _ (by omega)
  have hx8 : c % 256 ^^^ x < 2 ^ 8 := Nat.xor_lt_two_pow (by omega) (by omega)
  rw [show (c : Int) % 256 = ((c % 256 : Nat) : Int) by omega, u8_xor_nat _ _ (by omega) hx, Int.toNat_natCast, cEnt_nat 8 (by omega), show (c : Int) / 256 = ((c / 256 : Nat) : Int) by omega, u32_xor_nat _ _ (nEnt_lt 8 (by omega)) (by omega), nEnt_step c x hx]
theorem xor_flip {a b : Int} (ha : U32 a) (hb : U32 b) : bits .xor .u32 a b = bits .xor .u32 b a := by
  obtain ⟨A, rfl⟩ := Int.eq_ofNat_of_zero_le ha.1
  obtain ⟨B, rfl⟩ := Int.eq_ofNat_of_zero_le hb.1
  have h1 := ha.2
  have h2 := hb.2
  rw [u32_xor_nat A B (by omega) (by omega), u32_xor_nat B A (by omega) (by omega), Nat.xor_comm]
theorem xor_twice {a b : Int} (ha : U32 a) (hb : U32 b) : bits .xor .u32 a (bits .xor .u32 a b) = b := by
  obtain ⟨A, rfl⟩ := Int.eq_ofNat_of_zero_le ha.1
  obtain ⟨B, rfl⟩ := Int.eq_ofNat_of_zero_le hb.1
  have h1 := ha.2
  have h2 := hb.2
  have hx : A ^^^ B < 2 ^ 32 := Nat.xor_lt_two_pow (by omega) (by omega)
  rw [u32_xor_nat A B (by omega) (by omega), u32_xor_nat A _ (by omega) (by omega), ← Nat.xor_assoc, Nat.xor_self, Nat.zero_xor]
theorem step_in {c x : Int} (hc : U32 c) (hx : 0 ≤ x ∧ x ≤ 255) : cEnt 8 (bits .xor .u32 c (x % 4294967296)) = crcStep c x := by
  obtain ⟨C, rfl⟩ := Int.eq_ofNat_of_zero_le hc.1
  obtain ⟨X, rfl⟩ := Int.eq_ofNat_of_zero_le hx.1
  have h1 := hc.2
  have h2 := hx.2
  have hx : C ^^^ X < 2 ^ 32 := Nat.xor_lt_two_pow (by omega) (by omega)
  rw [show (X : Int) % 4294967296 = (X : Int) by omega, u32_xor_nat C X (by omega) (by omega), cEnt_nat 8 (by omega), step_nat (by omega) (by omega)]
theorem ones : U32 IntKind.u32.max := ⟨by decide, by decide⟩
theorem bit_tells {c : Int} (h : U32 c) : logbookref03_bit.f c = some (cBit c) := by
  have h1 := h.1
  have h2 := h.2
  unfold logbookref03_bit.f cBit
  rw [Int.tmod_eq_emod_of_nonneg h1, Int.tdiv_eq_ediv_of_nonneg h1, show c / 2 % 4294967296 = c / 2 by omega]
  by_cases hc : c % 2 = 1
  · rw [if_pos hc, if_pos hc]
  · rw [if_neg hc, if_neg hc]
theorem wn3 {i : Nat} (h : i ≤ 3000) : wrap64 ((i : Int) + 1) = ((i + 1 : Nat) : Int) := by
  rw [w64 (by omega) (by omega)]
  omega
theorem bits_go (l : List Int) (j : Nat) (hj : j ≤ 3000) (r : Int) : ∀ (d i : Nat) (c : Int), d + i = 8 → U32 c → (Ev (fun k => logbookref03_Add.l0 k l (cEnt d c) ((j + 1 : Nat) : Int)) r) → Ev (fun k => logbookref03_Add.l1 k l c (j : Int) (i : Int)) r
  | 0, i, c, hd, hc, h => by
    refine Ev.step (fun k => logbookref03_Add.l1.eq_2 _ _ _ _ _) (Ev.neg (by omega) ?_)
    rw [wn3 hj]
    exact h
  | d + 1, i, c, hd, hc, h => by
    refine Ev.step (fun k => logbookref03_Add.l1.eq_2 _ _ _ _ _) (Ev.pos (by omega) (Ev.bindc (bit_tells hc) ?_))
    rw [wn3 (by omega)]
    exact bits_go l j hj r d (i + 1) (cBit c) (by omega) (cBit_in hc) h
theorem add_go (l : List Int) (hl : l.length ≤ 3000) (hx : ∀ x ∈ l, 0 ≤ x ∧ x ≤ 255) : ∀ (n j : Nat) (c : Int), n + j = l.length → U32 c → Ev (fun k => logbookref03_Add.l0 k l c (j : Int)) (bits .xor .u32 ((l.drop j).foldl crcStep c) 4294967295)
  | 0, j, c, hn, hc => by
    rw [List.drop_of_length_le (by omega)]
    exact Ev.step (fun k => logbookref03_Add.l0.eq_2 _ _ _ _) (Ev.neg (by omega) (Ev.now _))
  | n + 1, j, c, hn, hc => by
    have hj : j < l.length := by omega
    have hrd : rd l (j : Int) = l[j] := by
      unfold rd
      rw [Int.toNat_natCast, List.getD_eq_getElem?_getD, List.getElem?_eq_getElem hj]
      rfl
    have hin := hx l[j] (List.getElem_mem hj)
    refine Ev.step (fun k => logbookref03_Add.l0.eq_2 _ _ _ _) (Ev.pos (by omega) (Ev.pos (by omega) ?_))
    rw [hrd, List.drop_eq_getElem_cons hj, List.foldl_cons]
    refine bits_go l j (by omega) _ 8 0 _ rfl (xor_in hc ⟨by omega, by omega⟩) ?_
    rw [step_in hc hin]
    exact add_go l hl hx n (j + 1) _ (by omega) (crcStep_in hc hin)
theorem add_tells (l : List Int) (hl : l.length ≤ 3000) (hx : ∀ x ∈ l, 0 ≤ x ∧ x ≤ 255) (s : Int) (hs : U32 s) : Ev (fun k => logbookref03_Add.f k s l) (crcAdd s l) := by
  have h0 := xor_in hs ones
  have h := add_go l hl hx l.length 0 (bits .xor .u32 s 4294967295) (by omega) h0
  rw [List.drop_zero] at h
  refine Ev.eq h ?_
  unfold crcAdd
  rw [xor_flip ones hs, xor_flip (a := IntKind.u32.max) ones (fold_in l _ (xor_in hs ones) hx)]
  rfl
theorem CrcSums (y0 : Int) (y1 : List Int) (w0 : (Lit.int .u32 y0).wf = true) (w1 : (y1.length ≤ maxLen ∧ y1.length * 1 ≤ 140737488351232 ∧ ∀ x ∈ y1, (Lit.int .u8 x).wf = true)) : ∃ k, logbooklaw03_CrcSums.f k y0 y1 = some true := by
  have h := wf_u32 w0
  refine Ev.at (Ev.both (fun _ => Ev.now _) (fun hl => ?_))
  have hx : ∀ x ∈ y1, 0 ≤ x ∧ x ≤ 255 := fun x hx => wf_u8 (w1.2.2 x hx)
  refine Ev.bind (add_tells y1 (by omega) hx 0 ⟨by omega, by omega⟩) (Ev.bind (add_tells y1 (by omega) hx y0 ⟨by omega, by omega⟩) (Ev.pos ⟨by omega, by omega, ?_, rfl, rfl⟩ (Ev.now _)))
  exact List.all_eq_true.2 (fun x h => decide_eq_true (hx x h))
end Go.Proofs.Ytdpahmojoheljaa.PureCrcSums
