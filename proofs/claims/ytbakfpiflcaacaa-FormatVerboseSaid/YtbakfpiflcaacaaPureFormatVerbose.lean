/- FormatVerbose: every entry with all its items: in plain Lean. -/
import Derived.Test.YtbakfpiflcaacaaPFormatVerbosex11
import Derived.Test.YtbakfpiflcaacaaDec
import Derived.Test.YtbakfpiflcaacaaStr
import Derived.Test.YtbakfpiflcaacaaEvs
import Derived.Test.YtbakfpiflcaacaaHex
namespace Go.Proofs.Ytbakfpiflcaacaa.Pure
open Go.RowKit Go.Proofs.Ytbakfpiflcaacaa.PFormatVerbose Go.Proofs.YtbakfpiflcaacaaW.PrintWords Go.Proofs.YtbakfpiflcaacaaW.PrintLast Go.Proofs.YtbakfpiflcaacaaW.PrintMore Go.Proofs.Ytbakfpiflcaacaa.Evs Go.Proofs.Ytbakfpiflcaacaa.Str Go.Proofs.Ytbakfpiflcaacaa.Conv Go.Proofs.Ytbakfpiflcaacaa.Dec Go.Proofs.Ytbakfpiflcaacaa.Hex
set_option linter.unusedVariables false
set_option linter.unusedSimpArgs false
namespace FV
namespace Num
theorem w8 {n : Int} (h0 : 0 ≤ n) (h : n < 10) : IntKind.u64.wrap (48 + n) % 256 = 48 + n := by
  rw [wu64 (by omega) (by omega)]
  omega
theorem div10 {n : Int} (h0 : 0 ≤ n) (h1 : n ≤ 18446744073709551615) : IntKind.u64.wrap (Int.tdiv n 10) = n / 10 := by
  rw [Int.tdiv_eq_ediv_of_nonneg h0, wu64 (by omega) (by omega)]
theorem mod10 {n : Int} (h0 : 0 ≤ n) : IntKind.u64.wrap (48 + Int.tmod n 10) % 256 = 48 + n % 10 := by
  rw [Int.tmod_eq_emod_of_nonneg h0]
  exact w8 (by omega) (by omega)
theorem small_div {n m : Int} (h0 : 0 ≤ n) (h1 : n ≤ m) : 0 ≤ n / 10 ∧ n / 10 ≤ m := by omega
theorem dec_tells : ∀ (d : Nat) (n : Int), d ≤ 20 → 0 ≤ n → n ≤ 18446744073709551615 → n < 10 ^ (d + 1) → Ev (fun k => export_Decimal.f k n) (strOfNums (decF (d + 1) n))
  | d, n, hd, h0, h1, hn => by
    refine Ev.step (fun k => export_Decimal.f.eq_2 _ _) ?_
    by_cases h : n < 10
    · refine Ev.pos h ?_
      rw [w8 h0 h, decF_small h]
      exact Ev.now _
    · refine Ev.neg h ?_
      rw [decF_big h, div10 h0 h1, mod10 h0]
      match d, hn with
      | 0, hn =>
        simp at hn
        exact absurd hn h
      | d + 1, hn =>
        have hs := small_div h0 h1
        refine Ev.bind (dec_tells d (n / 10) (by omega) hs.1 hs.2 (pow_lt hn)) (Ev.bindc rfl (Ev.pos ?_ ?_))
        · rw [size_str, size_str]
          have := decF_len (d + 1) (n / 10)
          simp
          omega
        · rw [str_append]
          exact Ev.now _
theorem lt20 {n : Int} (h1 : n ≤ 18446744073709551615) : n < 10 ^ (19 + 1) := by
  have : (10 : Int) ^ (19 + 1) = 100000000000000000000 := by decide
  omega
def dec (n : Int) : List Int := decF 20 n
theorem decimal_tells (n : Int) (h0 : 0 ≤ n) (h1 : n ≤ 18446744073709551615) : Ev (fun k => export_Decimal.f k n) (strOfNums (dec n)) := dec_tells 19 n (by omega) h0 h1 (lt20 h1)

/-- The reference's: digits are put ahead. -/
theorem ref_go : ∀ (d : Nat) (n : Int) (acc : List Int), d ≤ 20 → acc.length + d ≤ 40 → 0 ≤ n → n ≤ 18446744073709551615 → n < 10 ^ d → acc ≠ [] → Bytes acc →
    Ev (fun k => logbookref32_Decimal.l0 k n (strOfNums acc)) (strOfNums ((if n = 0 then [] else decF d n) ++ acc))
  | d, n, acc, hd, hl, h0, h1, hn, hne, hb => by
    by_cases hz : n = 0
    · subst hz
      refine Ev.step (fun k => logbookref32_Decimal.l0.eq_2 _ _ _) (Ev.neg (by omega) (Ev.neg ?_ ?_))
      · intro e
        have := toList_eq_nil.1 e
        rw [size_str] at this
        exact hne (List.eq_nil_of_length_eq_zero this)
      · rw [if_pos rfl]
        exact Ev.now _
    · rw [if_neg hz]
      match d, hn with
      | 0, hn =>
        simp at hn
        omega
      | d + 1, hn =>
        have hs := small_div h0 h1
        refine Ev.step (fun k => logbookref32_Decimal.l0.eq_2 _ _ _) (Ev.pos (by omega) (Ev.bindc rfl (Ev.pos ?_ ?_)))
        · rw [size_str, size_str]
          simp
          omega
        · rw [mod10 h0, div10 h0 h1, str_append]
          have ih := ref_go d (n / 10) ((48 + n % 10) :: acc) (by omega) (by simp; omega) hs.1 hs.2 (pow_lt hn) (by simp) (by
            intro x hx
            rcases List.mem_cons.1 hx with rfl | hx
            · omega
            · exact hb x hx)
          refine Ev.eq ih ?_
          congr 1
          by_cases h : n < 10
          · rw [if_pos (by omega), decF_small h, show n % 10 = n by omega]
            rfl
          · rw [if_neg (by omega), decF_big h, List.append_assoc]
            rfl
theorem ref_decimal (n : Int) (h0 : 0 ≤ n) (h1 : n ≤ 18446744073709551615) : Ev (fun k => logbookref32_Decimal.f k n) (strOfNums (dec n)) := by
  have hs := small_div h0 h1
  have hq : n / 10 < 10 ^ 19 := pow_lt (lt20 h1)
  have ih := ref_go 19 (n / 10) [48 + n % 10] (by omega) (by simp) hs.1 hs.2 hq (by simp) (by
    intro x hx
    rw [List.mem_singleton.1 hx]
    omega)
  have hf : ∀ k, logbookref32_Decimal.f k n = logbookref32_Decimal.l0 k n (⟨#[]⟩ : ByteArray) := fun _ => rfl
  refine Ev.congr hf ?_
  have e : (if n / 10 = 0 then [] else decF 19 (n / 10)) ++ [48 + n % 10] = dec n := by
    by_cases h : n < 10
    · rw [if_pos (by omega)]
      show _ = decF 20 n
      rw [decF_small h, show n % 10 = n by omega]
      rfl
    · rw [if_neg (by omega)]
      exact (decF_big h).symm
  rw [e] at ih
  have e2 : strOfNums [48 + n % 10] ++ (⟨#[]⟩ : ByteArray) = strOfNums [48 + n % 10] := by
    apply bytesOf_inj
    rw [bytesOf_append, bytesOf_empty, List.append_nil]
  have e3 : (strOfNums [48 + n % 10]).size + (⟨#[]⟩ : ByteArray).size ≤ 9223372036854775807 := by
    rw [size_str]
    show (1 : Nat) + 0 ≤ 9223372036854775807
    decide
  by_cases hz : n > 0
  · refine Ev.step (fun k => logbookref32_Decimal.l0.eq_2 _ _ _) (Ev.pos hz (Ev.bindc rfl (Ev.pos ?_ ?_)))
    · rw [mod10 h0]
      exact e3
    · rw [mod10 h0, div10 h0 h1, e2]
      exact ih
  · refine Ev.step (fun k => logbookref32_Decimal.l0.eq_2 _ _ _) (Ev.neg hz (Ev.pos (toList_nil rfl) (Ev.bindc rfl (Ev.pos ?_ ?_))))
    · rw [mod10 h0]
      exact e3
    · rw [mod10 h0, div10 h0 h1, e2]
      exact ih
end Num
/-! ### the calendar -/
def lp (y : Int) : Prop := y % 4 = 0 ∧ (y % 100 ≠ 0 ∨ y % 400 = 0)
instance (y : Int) : Decidable (lp y) := by unfold lp; infer_instance
def yd (y : Int) : Int := if lp y then 366 else 365
/-- The days from the first day of 1970 up to a year's first one. -/
def yst (y : Int) : Int := 365 * (y - 1970) + (y - 1) / 4 - (y - 1) / 100 + (y - 1) / 400 - 477
theorem yst_succ (y : Int) : yst (y + 1) = yst y + yd y := by
  unfold yst yd
  by_cases h : lp y
  · rw [if_pos h]
    unfold lp at h
    omega
  · rw [if_neg h]
    unfold lp at h
    omega
theorem yd_pos (y : Int) : 365 ≤ yd y ∧ yd y ≤ 366 := by
  unfold yd
  split <;> omega
def md (l : Bool) (m : Int) : Int := if m = 4 ∨ m = 6 ∨ m = 9 ∨ m = 11 then 30 else if m = 2 then (if l then 29 else 28) else 31
def mst (l : Bool) (m : Int) : Int :=
  if m ≤ 1 then 0 else if m = 2 then 31 else (if l then 1 else 0) + (if m = 3 then 59 else if m = 4 then 90 else if m = 5 then 120 else if m = 6 then 151 else if m = 7 then 181 else if m = 8 then 212 else if m = 9 then 243 else if m = 10 then 273 else if m = 11 then 304 else 334)
theorem mst_succ (l : Bool) (m : Int) (h0 : 1 ≤ m) (h1 : m ≤ 11) : mst l (m + 1) = mst l m + md l m := by
  have : m = 1 ∨ m = 2 ∨ m = 3 ∨ m = 4 ∨ m = 5 ∨ m = 6 ∨ m = 7 ∨ m = 8 ∨ m = 9 ∨ m = 10 ∨ m = 11 := by omega
  rcases this with rfl | rfl | rfl | rfl | rfl | rfl | rfl | rfl | rfl | rfl | rfl <;> cases l <;> rfl
theorem md_pos (l : Bool) (m : Int) : 28 ≤ md l m ∧ md l m ≤ 31 := by
  unfold md
  cases l <;> simp <;> split <;> (try split) <;> omega
def rY (r : Nat) : Nat := (r - r / 1460 + r / 36524 - r / 146096) / 365
def rOk (r : Nat) : Bool :=
  Nat.ble (rY r) 399 && Nat.ble (365 * rY r + rY r / 4 - rY r / 100) r && Nat.ble (r - (365 * rY r + rY r / 4 - rY r / 100)) 365 &&
  (Nat.ble (r - (365 * rY r + rY r / 4 - rY r / 100)) 364 || (Nat.beq ((rY r + 1) % 4) 0 && (Nat.ble 1 ((rY r + 1) % 100) || Nat.beq ((rY r + 1) % 400) 0)))
def allR : Nat → Nat → Bool
  | 0, lo => Nat.ble 146097 lo || rOk lo
  | n + 1, lo => Nat.ble 146097 lo || (allR n lo && allR n (lo + 2 ^ n))
theorem allR_tells : ∀ (n lo : Nat), allR n lo = true → ∀ r, lo ≤ r → r < lo + 2 ^ n → r < 146097 → rOk r = true
  | 0, lo, h, r, h1, h2, h3 => by
    obtain rfl : r = lo := by
      simp at h2
      omega
    simp only [allR, Bool.or_eq_true] at h
    rcases h with h | h
    · have := Nat.le_of_ble_eq_true h
      omega
    · exact h
  | n + 1, lo, h, r, h1, h2, h3 => by
    simp only [allR, Bool.or_eq_true, Bool.and_eq_true] at h
    rcases h with h | ⟨ha, hb⟩
    · have := Nat.le_of_ble_eq_true h
      omega
    · rw [Nat.pow_succ] at h2
      rcases Nat.lt_or_ge r (lo + 2 ^ n) with h4 | h4
      · exact allR_tells n lo ha r h1 h4 h3
      · exact allR_tells n (lo + 2 ^ n) hb r h4 (by omega) h3
theorem allR_all : allR 18 0 = true := by decide +kernel
theorem rOk_all (r : Nat) (h : r < 146097) : rOk r = true := allR_tells 18 0 allR_all r (by omega) (by omega) h
/-- A day of an era: its year, counted from March on. -/
theorem era_day (r : Int) (h0 : 0 ≤ r) (h1 : r < 146097) : ∃ y q : Int, (r - r / 1460 + r / 36524 - r / 146096) / 365 = y ∧ 0 ≤ y ∧ y ≤ 399 ∧ r - (365 * y + y / 4 - y / 100) = q ∧ 0 ≤ q ∧ q ≤ 365 ∧ (q = 365 → lp (y + 1)) := by
  obtain ⟨n, rfl⟩ : ∃ n : Nat, r = n := ⟨r.toNat, by omega⟩
  have h := rOk_all n (by omega)
  unfold rOk at h
  simp only [Bool.and_eq_true, Bool.or_eq_true] at h
  obtain ⟨⟨⟨a, b⟩, c⟩, d⟩ := h
  have a := Nat.le_of_ble_eq_true a
  have b := Nat.le_of_ble_eq_true b
  have c := Nat.le_of_ble_eq_true c
  have e : (((n : Int) - (n : Int) / 1460 + (n : Int) / 36524 - (n : Int) / 146096) / 365) = (rY n : Int) := by
    unfold rY
    omega
  refine ⟨(rY n : Int), ((n - (365 * rY n + rY n / 4 - rY n / 100) : Nat) : Int), e, by omega, by omega, by omega, by omega, by omega, fun hq => ?_⟩
  rcases d with d | ⟨d1, d2⟩
  · have := Nat.le_of_ble_eq_true d
    omega
  · have d1 := Nat.eq_of_beq_eq_true d1
    unfold lp
    rcases d2 with d2 | d2
    · have := Nat.le_of_ble_eq_true d2
      omega
    · have := Nat.eq_of_beq_eq_true d2
      omega
/-- A day of a year that begins with March: its month and its day. -/
theorem march_day (q : Int) (h0 : 0 ≤ q) (h1 : q ≤ 365) : ∃ m d : Int, (5 * q + 2) / 153 = m ∧ 0 ≤ m ∧ m ≤ 11 ∧ q - (153 * m + 2) / 5 + 1 = d ∧ 1 ≤ d ∧ d ≤ 31 ∧
    (m ≤ 9 → mst false (m + 3) + d = 59 + q + 1 ∧ d ≤ md false (m + 3)) ∧ (10 ≤ m → mst false (m - 9) + 306 + d = q + 1 ∧ (m = 10 → d ≤ 31) ∧ (m = 11 → d ≤ 29 ∧ (d = 29 → q = 365))) := by
  obtain ⟨m, hm⟩ : ∃ m, (5 * q + 2) / 153 = m := ⟨_, rfl⟩
  have hb : 0 ≤ m ∧ m ≤ 11 := by omega
  refine ⟨m, _, hm, hb.1, hb.2, rfl, ?_⟩
  have : m = 0 ∨ m = 1 ∨ m = 2 ∨ m = 3 ∨ m = 4 ∨ m = 5 ∨ m = 6 ∨ m = 7 ∨ m = 8 ∨ m = 9 ∨ m = 10 ∨ m = 11 := by omega
  rcases this with rfl | rfl | rfl | rfl | rfl | rfl | rfl | rfl | rfl | rfl | rfl | rfl <;>
  · refine ⟨by omega, by omega, fun h => ?_, fun h => ?_⟩ <;> first
    | (exfalso; omega)
    | (simp only [mst, md]; simp; omega)
/-- What the formula tells of a day. -/
structure Day where (y m d : Int)
def civ (n : Int) : Day :=
  let e := (n + 719468) / 146097
  let r := (n + 719468) % 146097
  let y := (r - r / 1460 + r / 36524 - r / 146096) / 365
  let q := r - (365 * y + y / 4 - y / 100)
  let m := (5 * q + 2) / 153
  if m + 3 > 12 then ⟨400 * e + y + 1, m + 3 - 12, q - (153 * m + 2) / 5 + 1⟩ else ⟨400 * e + y, m + 3, q - (153 * m + 2) / 5 + 1⟩
theorem civ_tells (n : Int) (h : 0 ≤ n) : 1970 ≤ (civ n).y ∧ 1 ≤ (civ n).m ∧ (civ n).m ≤ 12 ∧ 1 ≤ (civ n).d ∧ (civ n).d ≤ md (decide (lp (civ n).y)) (civ n).m ∧ yst (civ n).y + mst (decide (lp (civ n).y)) (civ n).m + (civ n).d - 1 = n := by
  obtain ⟨y, q, e1, y0, y1, e2, q0, q1, hl⟩ := era_day ((n + 719468) % 146097) (by omega) (by omega)
  obtain ⟨m, d, e3, m0, m1, e4, d0, d1, hA, hB⟩ := march_day q q0 q1
  obtain ⟨e, he⟩ : ∃ e, (n + 719468) / 146097 = e := ⟨_, rfl⟩
  have hn : n + 719468 = 146097 * e + (365 * y + y / 4 - y / 100) + q := by omega
  have he0 : 4 ≤ e := by omega
  have hc : civ n = if m + 3 > 12 then ⟨400 * e + y + 1, m + 3 - 12, d⟩ else ⟨400 * e + y, m + 3, d⟩ := by
    unfold civ
    simp only [e1, e2, e3, e4, he]
  rw [hc]
  have hY : yst (400 * e + y + 1) = 146097 * e + (365 * y + y / 4 - y / 100) - 719162 := by
    unfold yst
    rw [show (400 * e + y + 1 - 1) / 4 = 100 * e + y / 4 by omega, show (400 * e + y + 1 - 1) / 100 = 4 * e + y / 100 by omega, show (400 * e + y + 1 - 1) / 400 = e by omega]
    omega
  by_cases hm : m + 3 > 12
  · rw [if_pos hm]
    obtain ⟨b1, b2, b3⟩ := hB (by omega)
    have hlp : lp (y + 1) → lp (400 * e + y + 1) := by
      unfold lp
      omega
    have h2 : m = 10 ∨ m = 11 := by omega
    have hy := hY
    show 1970 ≤ 400 * e + y + 1 ∧ 1 ≤ m + 3 - 12 ∧ m + 3 - 12 ≤ 12 ∧ 1 ≤ d ∧ d ≤ md (decide (lp (400 * e + y + 1))) (m + 3 - 12) ∧ yst (400 * e + y + 1) + mst (decide (lp (400 * e + y + 1))) (m + 3 - 12) + d - 1 = n
    rw [hy]
    rcases h2 with rfl | rfl
    · have e5 : ∀ l, mst l (10 + 3 - 12) = 0 := fun l => rfl
      have e6 : ∀ l, md l (10 + 3 - 12) = 31 := fun l => rfl
      have e7 : mst false (10 - 9) = 0 := rfl
      rw [e5, e6]
      rw [e7] at b1
      have := b2 rfl
      omega
    · have e5 : ∀ l, mst l (11 + 3 - 12) = 31 := fun l => rfl
      have e7 : mst false (11 - 9) = 31 := rfl
      have e8 : md true (11 + 3 - 12) = 29 := rfl
      have e9 : md false (11 + 3 - 12) = 28 := rfl
      rw [e5]
      rw [e7] at b1
      obtain ⟨c1, c2⟩ := b3 rfl
      have h5 : d ≤ md (decide (lp (400 * e + y + 1))) (11 + 3 - 12) := by
        by_cases hd : d = 29
        · rw [decide_eq_true (hlp (hl (c2 hd))), e8]
          omega
        · cases decide (lp (400 * e + y + 1))
          · rw [e9]
            omega
          · rw [e8]
            omega
      refine ⟨by omega, by omega, by omega, d0, h5, by omega⟩
  · rw [if_neg hm]
    obtain ⟨a1, a2⟩ := hA (by omega)
    show 1970 ≤ 400 * e + y ∧ 1 ≤ m + 3 ∧ m + 3 ≤ 12 ∧ 1 ≤ d ∧ d ≤ md (decide (lp (400 * e + y))) (m + 3) ∧ yst (400 * e + y) + mst (decide (lp (400 * e + y))) (m + 3) + d - 1 = n
    have hmd : ∀ l, md l (m + 3) = md false (m + 3) := fun l => by
      unfold md
      rw [if_neg (c := m + 3 = 2) (by omega), if_neg (c := m + 3 = 2) (by omega)]
    have hms : ∀ l, mst l (m + 3) = (if l then 1 else 0) + mst false (m + 3) := fun l => by
      unfold mst
      rw [if_neg (c := m + 3 ≤ 1) (by omega), if_neg (c := m + 3 = 2) (by omega), if_neg (c := m + 3 ≤ 1) (by omega), if_neg (c := m + 3 = 2) (by omega)]
      simp
    have hy : yst (400 * e + y) + (if decide (lp (400 * e + y)) = true then 1 else 0) = 146097 * e + (365 * y + y / 4 - y / 100) - 719468 + 306 - 365 := by
      have h1 := yst_succ (400 * e + y)
      rw [hY] at h1
      unfold yd at h1
      by_cases h : lp (400 * e + y)
      · rw [if_pos h] at h1
        rw [if_pos (decide_eq_true h)]
        omega
      · rw [if_neg h] at h1
        rw [if_neg (by rw [decide_eq_false h]; exact Bool.false_ne_true)]
        omega
    rw [hmd, hms]
    refine ⟨by omega, by omega, by omega, d0, a2, by omega⟩
/-! ### the reference's ways -/
theorem yst_mono : ∀ (k : Nat) (y : Int), yst y ≤ yst (y + k)
  | 0, y => by
    rw [show y + ((0 : Nat) : Int) = y by omega]
    exact Int.le_refl _
  | k + 1, y => by
    have h := yst_mono k y
    have h2 := yst_succ (y + k)
    have h3 := yd_pos (y + k)
    rw [show y + ((k + 1 : Nat) : Int) = y + k + 1 by omega]
    omega
theorem yst_le {a b : Int} (h : a ≤ b) : yst a ≤ yst b := by
  have := yst_mono (b - a).toNat a
  rw [show a + (((b - a).toNat : Nat) : Int) = b by omega] at this
  exact this
theorem mst_le (l : Bool) (a b : Int) (h0 : 1 ≤ a) (h : a ≤ b) (h1 : b ≤ 12) : mst l a ≤ mst l b := by
  obtain ⟨k, rfl⟩ : ∃ k : Nat, b = a + k := ⟨(b - a).toNat, by omega⟩
  induction k with
  | zero =>
    rw [show a + ((0 : Nat) : Int) = a by omega]
    exact Int.le_refl _
  | succ k ih =>
    have h2 := mst_succ l (a + k) (by omega) (by omega)
    have h3 := md_pos l (a + k)
    have h4 := ih (by omega) (by omega)
    rw [show a + ((k + 1 : Nat) : Int) = a + k + 1 by omega]
    omega
theorem mst_end (l : Bool) : mst l 12 + md l 12 = (if l then 366 else 365) := by
  cases l <;> rfl
theorem civ_year (n : Int) (h : 0 ≤ n) : yst (civ n).y ≤ n ∧ n < yst ((civ n).y + 1) := by
  obtain ⟨c1, c2, c3, c4, c5, c6⟩ := civ_tells n h
  have h1 := mst_le (decide (lp (civ n).y)) 1 (civ n).m (by omega) c2 c3
  have e1 : ∀ l, mst l 1 = 0 := fun l => rfl
  rw [e1] at h1
  rw [yst_succ]
  have h3 : mst (decide (lp (civ n).y)) (civ n).m + md (decide (lp (civ n).y)) (civ n).m ≤ yd (civ n).y := by
    have h4 := mst_end (decide (lp (civ n).y))
    have e2 : yd (civ n).y = (if decide (lp (civ n).y) = true then 366 else 365) := by
      unfold yd
      simp only [decide_eq_true_eq]
    rw [e2, ← h4]
    by_cases hm : (civ n).m = 12
    · rw [hm]
      exact Int.le_refl _
    · rw [← mst_succ _ _ c2 (by omega)]
      have h5 := mst_le (decide (lp (civ n).y)) ((civ n).m + 1) 12 (by omega) (by omega) (by omega)
      have h6 := md_pos (decide (lp (civ n).y)) 12
      omega
  omega
/-! ### the calendar of the program, and of the reference -/
def T8 := Int × Int × Int × Int × Int × Int × Int × Bool
def calT (a : Int) : Int × Int × Int × Int × Int × Int × Int × Bool :=
  if (civ (a / 86400000000)).y > 9999 then (0, 0, 0, 0, 0, 0, 0, false) else
  ((civ (a / 86400000000)).y, (civ (a / 86400000000)).m, (civ (a / 86400000000)).d, a % 86400000000 / 3600000000, a % 86400000000 / 60000000 % 60, a % 86400000000 / 1000000 % 60, a % 86400000000 % 1000000, true)
theorem civ_late {n : Int} (h : n > 3000000) : (civ n).y > 9999 := by
  obtain ⟨h1, h2⟩ := civ_year n (by omega)
  by_cases h3 : (civ n).y > 9999
  · exact h3
  · have := yst_le (a := (civ n).y + 1) (b := 10000) (by omega)
    have e : yst 10000 = 2932897 := by decide
    omega
theorem civV_eq (a : Int) (h0 : 0 ≤ a) : civV a = calT a := by
  unfold civV calT
  by_cases hc : a / 86400000000 > 3000000
  · rw [if_pos hc, if_pos (civ_late hc)]
  rw [if_neg hc]
  obtain ⟨n, hn⟩ : ∃ n, a / 86400000000 = n := ⟨_, rfl⟩
  have hn0 : 0 ≤ n := by omega
  rw [hn]
  obtain ⟨y, q, e1, y0, y1, e2, q0, q1, _⟩ := era_day ((n + 719468) % 146097) (by omega) (by omega)
  have ey : civY ((n + 719468) % 146097) = y := e1
  unfold civW civX civZ civT civ
  simp only [ey, e1, e2]
  rw [Int.tdiv_eq_ediv_of_nonneg (show 0 ≤ 5 * q + 2 by omega), Int.tdiv_eq_ediv_of_nonneg (show 0 ≤ 153 * ((5 * q + 2) / 153) + 2 by omega)]
  by_cases hm : (5 * q + 2) / 153 + 3 > 12
  · rw [if_pos hm, if_pos hm]
  · rw [if_neg hm, if_neg hm]
theorem civil_tells (a : Int) (h0 : 0 ≤ a) (h1 : a ≤ 18446744073709551615) : civil_Of.f a = some (calT a) := by
  unfold civil_Of.f
  rw [if_pos ⟨h0, h1⟩, civV_eq a h0]
theorem leap_tells (y : Int) (h : 0 ≤ y) : logbookref34_Leap.f y = some (decide (lp y)) := by
  unfold logbookref34_Leap.f
  rw [Int.tmod_eq_emod_of_nonneg h, Int.tmod_eq_emod_of_nonneg h, Int.tmod_eq_emod_of_nonneg h]
  by_cases c1 : y % 400 = 0
  · rw [if_pos c1, decide_eq_true (by unfold lp; omega)]
  · rw [if_neg c1]
    by_cases c2 : y % 4 = 0
    · rw [if_pos c2]
      by_cases c3 : y % 100 = 0
      · rw [c3, decide_eq_false (by unfold lp; omega)]
        rfl
      · rw [decide_eq_true (by unfold lp; omega)]
        exact congrArg some (bne_iff_ne.2 c3)
    · rw [if_neg c2, decide_eq_false (by unfold lp; omega)]
theorem days_tells (y : Int) (h : 0 ≤ y) : logbookref34_days.f y = some (yd y) := by
  unfold logbookref34_days.f
  rw [leap_tells y h]
  unfold yd
  by_cases c : lp y
  · rw [if_pos c, decide_eq_true c]
    rfl
  · rw [if_neg c, decide_eq_false c]
    rfl
theorem month_cases {m : Int} (h0 : 1 ≤ m) (h1 : m ≤ 12) : m = 1 ∨ m = 2 ∨ m = 3 ∨ m = 4 ∨ m = 5 ∨ m = 6 ∨ m = 7 ∨ m = 8 ∨ m = 9 ∨ m = 10 ∨ m = 11 ∨ m = 12 := by omega
theorem mdays_tells (y m : Int) (h : 0 ≤ y) (h0 : 1 ≤ m) (h1 : m ≤ 12) : Ev (fun k => logbookref34_Days.f k y m) (md (decide (lp y)) m) := by
  have hd : decide (m > 12) = false := decide_eq_false (by omega)
  refine Ev.neg (by omega) ?_
  rw [hd]
  refine Ev.step (fun k => logbookref34_Days.j0.eq_2 _ _ _ _) (Ev.neg (by decide) ?_)
  by_cases h2 : m = 2
  · subst h2
    refine Ev.pos rfl (Ev.bindc (leap_tells y h) ?_)
    by_cases c : lp y
    · rw [decide_eq_true c]
      exact Ev.pos rfl (Ev.eq (Ev.now _) rfl)
    · rw [decide_eq_false c]
      exact Ev.neg (by decide) (Ev.bindc rfl (Ev.pos (by decide +kernel) (Ev.pos (by decide +kernel) (Ev.eq (Ev.now _) (by decide +kernel)))))
  · refine Ev.neg h2 (Ev.bindc rfl ?_)
    have e : md (decide (lp y)) m = md false m := by
      unfold md
      rw [if_neg h2, if_neg h2]
    rw [e]
    rcases month_cases h0 h1 with rfl | rfl | rfl | rfl | rfl | rfl | rfl | rfl | rfl | rfl | rfl | rfl <;>
      first
      | exact absurd rfl h2
      | exact Ev.pos (by decide +kernel) (Ev.pos (by decide +kernel) (Ev.eq (Ev.now _) (by decide +kernel)))
theorem ofM_go (a : Int) (h0 : 0 ≤ a) (h1 : a ≤ 18446744073709551615) (hy : (civ (a / 86400000000)).y ≤ 9999) : ∀ (n : Nat) (m x : Int), 1 ≤ m → (civ (a / 86400000000)).m = m + n → x = a / 86400000000 - yst (civ (a / 86400000000)).y - mst (decide (lp (civ (a / 86400000000)).y)) m →
    Ev (fun k => logbookref34_Of.l1 k a x (civ (a / 86400000000)).y m 1 0 0 0 0) (calT a) := by
  have hD0 : 0 ≤ a / 86400000000 := by omega
  obtain ⟨c1, c2, c3, c4, c5, c6⟩ := civ_tells (a / 86400000000) hD0
  have hD1 : a / 86400000000 ≤ 213503982 := by omega
  have hyy := yst_le (a := 1970) (b := (civ (a / 86400000000)).y) c1
  have e70 : yst 1970 = 0 := by decide
  have hfin : calT a = ((civ (a / 86400000000)).y, (civ (a / 86400000000)).m, (civ (a / 86400000000)).d, a % 86400000000 / 3600000000, a % 86400000000 / 60000000 % 60, a % 86400000000 / 1000000 % 60, a % 86400000000 % 1000000, true) := by
    unfold calT
    rw [if_neg (by omega)]
  have hml := md_pos (decide (lp (civ (a / 86400000000)).y))
  have hus0 : 0 ≤ a % 86400000000 ∧ a % 86400000000 < 86400000000 := by omega
  have u1 : wrap64 (IntKind.u64.wrap (Int.tdiv (IntKind.u64.wrap (Int.tdiv (Int.tmod a 86400000000) 1000000)) 3600)) = a % 86400000000 / 3600000000 := by
    rw [Int.tmod_eq_emod_of_nonneg h0]
    generalize a % 86400000000 = u at hus0 ⊢
    rw [Int.tdiv_eq_ediv_of_nonneg hus0.1, wu64 (x := u / 1000000) (by omega) (by omega), Int.tdiv_eq_ediv_of_nonneg (by omega), wu64 (by omega) (by omega), w64 (by omega) (by omega)]
    omega
  have u2 : wrap64 (Int.tmod (IntKind.u64.wrap (Int.tdiv (IntKind.u64.wrap (Int.tdiv (Int.tmod a 86400000000) 1000000)) 60)) 60) = a % 86400000000 / 60000000 % 60 := by
    rw [Int.tmod_eq_emod_of_nonneg h0]
    generalize a % 86400000000 = u at hus0 ⊢
    rw [Int.tdiv_eq_ediv_of_nonneg hus0.1, wu64 (x := u / 1000000) (by omega) (by omega), Int.tdiv_eq_ediv_of_nonneg (by omega), wu64 (by omega) (by omega), Int.tmod_eq_emod_of_nonneg (by omega), w64 (by omega) (by omega)]
    omega
  have u3 : wrap64 (Int.tmod (IntKind.u64.wrap (Int.tdiv (Int.tmod a 86400000000) 1000000)) 60) = a % 86400000000 / 1000000 % 60 := by
    rw [Int.tmod_eq_emod_of_nonneg h0]
    generalize a % 86400000000 = u at hus0 ⊢
    rw [Int.tdiv_eq_ediv_of_nonneg hus0.1, wu64 (x := u / 1000000) (by omega) (by omega), Int.tmod_eq_emod_of_nonneg (by omega), w64 (by omega) (by omega)]
  have u4 : wrap64 (Int.tmod a 1000000) = a % 86400000000 % 1000000 := by
    rw [Int.tmod_eq_emod_of_nonneg h0, w64 (by omega) (by omega)]
    omega
  intro n
  induction n with
  | zero =>
    intro m x hm0 hm hx
    have hm : (civ (a / 86400000000)).m = m := by omega
    rw [← hm] at hx ⊢
    have hmd := hml (civ (a / 86400000000)).m
    refine Ev.step (fun k => logbookref34_Of.l1.eq_2 _ _ _ _ _ _ _ _ _ _) (Ev.bind (mdays_tells _ _ (by omega) c2 c3) ?_)
    rw [wu64 (by omega) (by omega)]
    refine Ev.neg (by omega) (Ev.eq (Ev.now _) ?_)
    rw [hfin, u1, u2, u3, u4, w64 (x := x) (by omega) (by omega), w64 (x := 1 + x) (by omega) (by omega)]
    rw [show 1 + x = (civ (a / 86400000000)).d by omega]
  | succ n ih =>
    intro m x hm0 hm hx
    have hmd := hml m
    have hs := mst_succ (decide (lp (civ (a / 86400000000)).y)) m hm0 (by omega)
    have hle := mst_le (decide (lp (civ (a / 86400000000)).y)) (m + 1) (civ (a / 86400000000)).m (by omega) (by omega) c3
    have hge := mst_le (decide (lp (civ (a / 86400000000)).y)) 1 m (by omega) (by omega) (by omega)
    have hm1 : mst (decide (lp (civ (a / 86400000000)).y)) 1 = 0 := rfl
    have hD := mdays_tells (civ (a / 86400000000)).y m (by omega) hm0 (by omega)
    refine Ev.step (fun k => logbookref34_Of.l1.eq_2 _ _ _ _ _ _ _ _ _ _) (Ev.bind hD ?_)
    rw [wu64 (x := md _ m) (by omega) (by omega)]
    refine Ev.pos (by omega) (Ev.bind hD ?_)
    rw [wu64 (x := md _ m) (by omega) (by omega), wu64 (x := x - md _ m) (by omega) (by omega), w64 (x := m + 1) (by omega) (by omega)]
    exact ih (m + 1) _ (by omega) (by omega) (by omega)
theorem ofY_go (a : Int) (h0 : 0 ≤ a) (h1 : a ≤ 18446744073709551615) : ∀ (n : Nat) (y x : Int), 1970 ≤ y → y ≤ 10000 → (civ (a / 86400000000)).y = y + n → x = a / 86400000000 - yst y →
    Ev (fun k => logbookref34_Of.l0 k a x y 1 1 0 0 0 0) (calT a)
  | n, y, x, hy0, hy1, hn, hx => by
    have hD0 : 0 ≤ a / 86400000000 := by omega
    have hD1 : a / 86400000000 ≤ 213503982 := by omega
    obtain ⟨g1, g2⟩ := civ_year (a / 86400000000) hD0
    have hyy := yst_le (a := 1970) (b := y) hy0
    have hyz := yst_le (a := y) (b := (civ (a / 86400000000)).y) (by omega)
    have e70 : yst 1970 = 0 := by decide
    have hyd := yd_pos y
    refine Ev.step (fun k => logbookref34_Of.l0.eq_2 _ _ _ _ _ _ _ _ _ _) ?_
    by_cases hl : y ≤ 9999
    · refine Ev.pos hl (Ev.bindc (days_tells y (by omega)) ?_)
      match n, hn with
      | 0, hn =>
        have hn : (civ (a / 86400000000)).y = y := by omega
        subst hn
        rw [yst_succ] at g2
        refine Ev.neg (by omega) (Ev.step (fun k => logbookref34_Of.j1.eq_2 _ _ _ _ _ _ _ _ _ _) (Ev.neg (by omega) ?_))
        obtain ⟨c1, c2, c3, c4, c5, c6⟩ := civ_tells (a / 86400000000) hD0
        have e1 : mst (decide (lp (civ (a / 86400000000)).y)) 1 = 0 := rfl
        exact ofM_go a h0 h1 hl ((civ (a / 86400000000)).m - 1).toNat 1 x (by omega) (by omega) (by omega)
      | n + 1, hn =>
        have hs := yst_succ y
        have hyw := yst_le (a := y + 1) (b := (civ (a / 86400000000)).y) (by omega)
        refine Ev.pos (by omega) (Ev.bindc (days_tells y (by omega)) ?_)
        rw [wu64 (by omega) (by omega), w64 (by omega) (by omega)]
        exact ofY_go a h0 h1 n (y + 1) _ (by omega) (by omega) (by omega) (by omega)
    · refine Ev.neg hl (Ev.step (fun k => logbookref34_Of.j1.eq_2 _ _ _ _ _ _ _ _ _ _) (Ev.pos (by omega) (Ev.eq (Ev.now _) ?_)))
      unfold calT
      rw [if_pos (by omega)]
theorem ref34_tells (a : Int) (h0 : 0 ≤ a) (h1 : a ≤ 18446744073709551615) : Ev (fun k => logbookref34_Of.f k a) (calT a) := by
  have hD0 : 0 ≤ a / 86400000000 := by omega
  obtain ⟨c1, _⟩ := civ_tells (a / 86400000000) hD0
  have e : IntKind.u64.wrap (Int.tdiv a 86400000000) = a / 86400000000 := by
    rw [Int.tdiv_eq_ediv_of_nonneg h0, wu64 (by omega) (by omega)]
  have e70 : yst 1970 = 0 := by decide
  refine Ev.congr (f := fun k => logbookref34_Of.l0 k a (IntKind.u64.wrap (Int.tdiv a 86400000000)) 1970 1 1 0 0 0 0) (fun k => rfl) ?_
  rw [e]
  exact ofY_go a h0 h1 ((civ (a / 86400000000)).y - 1970).toNat 1970 _ (by omega) (by omega) (by omega) (by omega)
theorem calT_in (a : Int) (h0 : 0 ≤ a) (h : (calT a).2.2.2.2.2.2.2 = true) : 1970 ≤ (calT a).1 ∧ (calT a).1 ≤ 9999 ∧ 1 ≤ (calT a).2.1 ∧ (calT a).2.1 ≤ 12 ∧ 1 ≤ (calT a).2.2.1 ∧ (calT a).2.2.1 ≤ 31 ∧
    0 ≤ (calT a).2.2.2.1 ∧ (calT a).2.2.2.1 ≤ 23 ∧ 0 ≤ (calT a).2.2.2.2.1 ∧ (calT a).2.2.2.2.1 ≤ 59 ∧ 0 ≤ (calT a).2.2.2.2.2.1 ∧ (calT a).2.2.2.2.2.1 ≤ 59 ∧ 0 ≤ (calT a).2.2.2.2.2.2.1 ∧ (calT a).2.2.2.2.2.2.1 ≤ 999999 := by
  obtain ⟨c1, c2, c3, c4, c5, c6⟩ := civ_tells (a / 86400000000) (by omega)
  have hml := md_pos (decide (lp (civ (a / 86400000000)).y)) (civ (a / 86400000000)).m
  unfold calT at h ⊢
  by_cases hy : (civ (a / 86400000000)).y > 9999
  · rw [if_pos hy] at h
    cases h
  · rw [if_neg hy]
    refine ⟨c1, ?_, c2, c3, c4, ?_, ?_, ?_, ?_, ?_, ?_, ?_, ?_, ?_⟩ <;> simp only <;> omega
/-! ### numbers with a fill ahead -/
def padL (c : Int) (w : Nat) (l : List Int) : List Int := List.replicate (w - l.length) c ++ l
theorem padL_step (c : Int) (w : Nat) (l : List Int) (h : l.length < w) : padL c w l = padL c w (c :: l) := by
  unfold padL
  rw [show w - l.length = (w - (c :: l).length) + 1 by rw [List.length_cons]; omega, List.replicate_succ', List.append_assoc]
  rfl
theorem padL_done (c : Int) (w : Nat) (l : List Int) (h : w ≤ l.length) : padL c w l = l := by
  unfold padL
  rw [show w - l.length = 0 by omega]
  rfl
theorem padL_len (c : Int) (w : Nat) (l : List Int) : (padL c w l).length = max w l.length := by
  unfold padL
  rw [List.length_append, List.length_replicate]
  omega
theorem lit1_cons (c : UInt8) (l : List Int) : (⟨#[c]⟩ : ByteArray) ++ strOfNums l = strOfNums ((c.toNat : Int) :: l) := by
  have e : (⟨#[c]⟩ : ByteArray) = strOfNums [(c.toNat : Int)] := by
    show ByteArray.mk #[c] = ByteArray.mk #[UInt8.ofNat ((c.toNat : Int)).toNat]
    rw [ofNat_nat]
  rw [e, str_append]
  rfl
theorem pad_go (c : UInt8) (w : Nat) (hw : w ≤ 1000) : ∀ (d : Nat) (l : List Int), w - l.length = d → l.length ≤ 1000 → Ev (fun k => format_pad.l0 k (w : Int) (⟨#[c]⟩ : ByteArray) (strOfNums l)) (strOfNums (padL (c.toNat : Int) w l))
  | 0, l, hd, hl => by
    rw [padL_done _ _ _ (by omega)]
    exact Ev.step (fun k => format_pad.l0.eq_2 _ _ _ _) (Ev.neg (by rw [size_str]; omega) (Ev.now _))
  | d + 1, l, hd, hl => by
    have ih := pad_go c w hw d ((c.toNat : Int) :: l) (by rw [List.length_cons]; omega) (by rw [List.length_cons]; omega)
    rw [padL_step _ _ _ (by omega)]
    refine Ev.step (fun k => format_pad.l0.eq_2 _ _ _ _) (Ev.pos (by rw [size_str]; omega) (Ev.pos ?_ ?_))
    · rw [size_str]
      show 1 + l.length ≤ _
      omega
    · rw [lit1_cons]
      exact ih
theorem pad_tells (n : Int) (h0 : 0 ≤ n) (h1 : n ≤ 18446744073709551615) (w : Nat) (hw : w ≤ 1000) (c : UInt8) : Ev (fun k => format_pad.f k n (w : Int) (⟨#[c]⟩ : ByteArray)) (strOfNums (padL (c.toNat : Int) w (Num.dec n))) :=
  Ev.bind (Num.decimal_tells n h0 h1) (pad_go c w hw _ _ rfl (Nat.le_trans (decF_len 20 n) (by decide)))
theorem two_go (w : Nat) (hw : w ≤ 1000) : ∀ (d : Nat) (l : List Int), w - l.length = d → l.length ≤ 1000 → Ev (fun k => logbookref34_two.l0 k (w : Int) (strOfNums l)) (strOfNums (padL 48 w l))
  | 0, l, hd, hl => by
    rw [padL_done _ _ _ (by omega)]
    exact Ev.step (fun k => logbookref34_two.l0.eq_2 _ _ _) (Ev.neg (by rw [size_str]; omega) (Ev.now _))
  | d + 1, l, hd, hl => by
    have ih := two_go w hw d (48 :: l) (by rw [List.length_cons]; omega) (by rw [List.length_cons]; omega)
    rw [padL_step _ _ _ (by omega)]
    refine Ev.step (fun k => logbookref34_two.l0.eq_2 _ _ _) (Ev.pos (by rw [size_str]; omega) (Ev.pos ?_ ?_))
    · rw [size_str]
      omega
    · rw [lit1_cons 48]
      exact ih
theorem two_tells (n : Int) (h0 : 0 ≤ n) (h1 : n ≤ 1000000) (w : Nat) (hw : w ≤ 1000) : Ev (fun k => logbookref34_two.f k n (w : Int)) (strOfNums (padL 48 w (Num.dec n))) := by
  refine Ev.congr (f := fun k => (logbookref32_Decimal.f k (IntKind.u64.wrap n)).bind fun t => logbookref34_two.l0 k (w : Int) t) (fun k => rfl) ?_
  rw [wu64 (by omega) (by omega)]
  exact Ev.bind (Num.ref_decimal n h0 (by omega)) (two_go w hw _ _ rfl (Nat.le_trans (decF_len 20 n) (by decide)))
def p2 (n : Int) : List Int := [48 + n / 10, 48 + n % 10]
theorem padL_two (n : Int) (h0 : 0 ≤ n) (h1 : n ≤ 99) : padL 48 2 (Num.dec n) = p2 n := by
  unfold Num.dec p2
  by_cases h : n < 10
  · rw [decF_small h, show n / 10 = 0 by omega, show n % 10 = n by omega]
    rfl
  · rw [decF_big h, decF_small (by omega)]
    rfl
theorem dec_len4 (n : Int) (h0 : 1000 ≤ n) (h1 : n ≤ 9999) : (Num.dec n).length = 4 := by
  unfold Num.dec
  rw [decF_big (by omega), decF_big (by omega), decF_big (by omega), decF_small (by omega)]
  rfl
def monS (m : Int) : ByteArray := rdOf ByteArray.empty ([(⟨#[74, 97, 110]⟩ : ByteArray), (⟨#[70, 101, 98]⟩ : ByteArray), (⟨#[77, 97, 114]⟩ : ByteArray), (⟨#[65, 112, 114]⟩ : ByteArray), (⟨#[77, 97, 121]⟩ : ByteArray), (⟨#[74, 117, 110]⟩ : ByteArray), (⟨#[74, 117, 108]⟩ : ByteArray), (⟨#[65, 117, 103]⟩ : ByteArray), (⟨#[83, 101, 112]⟩ : ByteArray), (⟨#[79, 99, 116]⟩ : ByteArray), (⟨#[78, 111, 118]⟩ : ByteArray), (⟨#[68, 101, 99]⟩ : ByteArray)] : List ByteArray) (m - 1)
def monL (m : Int) : List Int := bytesOf (monS m)
theorem mon_str (m : Int) : monS m = strOfNums (monL m) := (str_bytes _).symm
theorem monL_len (m : Int) (h0 : 1 ≤ m) (h1 : m ≤ 12) : (monL m).length = 3 := by
  rcases month_cases h0 h1 with rfl | rfl | rfl | rfl | rfl | rfl | rfl | rfl | rfl | rfl | rfl | rfl <;> rfl
theorem month_tells (m : Int) (h0 : 1 ≤ m) (h1 : m ≤ 12) : format_month.f m = some (monS m) := by
  rcases month_cases h0 h1 with rfl | rfl | rfl | rfl | rfl | rfl | rfl | rfl | rfl | rfl | rfl | rfl <;> decide +kernel
def clockL (a : Int) : List Int :=
  if (calT a).2.2.2.2.2.2.2 = true then monL (calT a).2.1 ++ 32 :: (p2 (calT a).2.2.1 ++ 32 :: (p2 (calT a).2.2.2.1 ++ 58 :: (p2 (calT a).2.2.2.2.1 ++ 58 :: p2 (calT a).2.2.2.2.2.1)))
  else 64 :: Num.dec a
theorem clockL_len (a : Int) (h0 : 0 ≤ a) : (clockL a).length ≤ 21 := by
  unfold clockL
  by_cases h : (calT a).2.2.2.2.2.2.2 = true
  · obtain ⟨_, _, m0, m1, _⟩ := calT_in a h0 h
    have := monL_len _ m0 m1
    rw [if_pos h]
    simp only [List.length_append, List.length_cons, p2, List.length_nil]
    omega
  · rw [if_neg h]
    have := decF_len 20 a
    rw [List.length_cons]
    unfold Num.dec
    omega
theorem lit_32 : (⟨#[32]⟩ : ByteArray) = strOfNums [32] := rfl
theorem lit_58 : (⟨#[58]⟩ : ByteArray) = strOfNums [58] := rfl
theorem lit_45 : (⟨#[45]⟩ : ByteArray) = strOfNums [45] := rfl
theorem lit_46 : (⟨#[46]⟩ : ByteArray) = strOfNums [46] := rfl
theorem lit_64 : (⟨#[64]⟩ : ByteArray) = strOfNums [64] := rfl
theorem clock_tells (a : Int) (h0 : 0 ≤ a) (h1 : a ≤ 18446744073709551615) : Ev (fun k => format_Clock.f k a) (strOfNums (clockL a)) := by
  refine Ev.bindc (civil_tells a h0 h1) ?_
  unfold clockL
  by_cases h : (calT a).2.2.2.2.2.2.2 = true
  · obtain ⟨_, _, m0, m1, d0, d1, e0, e1, f0, f1, g0, g1, _⟩ := calT_in a h0 h
    have hml := monL_len _ m0 m1
    have q : ∀ n : Int, 0 ≤ n → n ≤ 99 → Ev (fun k => format_pad.f k (IntKind.u64.wrap n) 2 (⟨#[48]⟩ : ByteArray)) (strOfNums (p2 n)) := fun n n0 n1 => by
      have := pad_tells n n0 (by omega) 2 (by decide) 48
      rw [wu64 n0 (by omega), ← padL_two n n0 n1]
      exact this
    have z2 : ∀ n, (strOfNums (p2 n)).size = 2 := fun n => by rw [size_str]; rfl
    rw [if_pos h]
    refine Ev.pos h (Ev.bindc (month_tells _ m0 m1) ?_)
    rw [mon_str]
    have z3 : (strOfNums (monL (calT a).2.1)).size = 3 := by rw [size_str]; exact hml
    refine Ev.pos (by omega) (Ev.bind (q _ (by omega) (by omega)) (Ev.pos (by rw [z2]; omega) (Ev.pos (by rw [z2]; omega) (Ev.bind (q _ (by omega) (by omega)) (Ev.pos (by rw [z2, z2]; omega) (Ev.pos (by rw [z2, z2]; omega) (Ev.bind (q _ (by omega) (by omega)) (Ev.pos (by rw [z2, z2, z2]; omega) (Ev.pos (by rw [z2, z2, z2]; omega) (Ev.bind (q _ (by omega) (by omega)) (Ev.pos (by rw [z2, z2, z2, z2]; omega) (Ev.eq (Ev.now _) ?_))))))))))))
    rw [lit_32, lit_58]
    simp only [str_append]
    congr 1
    simp only [List.append_assoc]
    rfl
  · rw [if_neg h]
    have hz := decF_len 20 a
    refine Ev.neg h (Ev.bind (Num.decimal_tells a h0 h1) (Ev.pos ?_ (Ev.eq (Ev.now _) ?_)))
    · rw [size_str]
      unfold Num.dec
      omega
    · rw [lit_64, str_append]
      rfl
def textL34 (a : Int) : List Int := Num.dec (calT a).1 ++ 45 :: (p2 (calT a).2.1 ++ 45 :: (p2 (calT a).2.2.1 ++ 32 :: (p2 (calT a).2.2.2.1 ++ 58 :: (p2 (calT a).2.2.2.2.1 ++ 58 :: (p2 (calT a).2.2.2.2.2.1 ++ 46 :: padL 48 6 (Num.dec (calT a).2.2.2.2.2.2.1))))))
theorem text34_tells (a : Int) (h0 : 0 ≤ a) (h1 : a ≤ 18446744073709551615) (h : (calT a).2.2.2.2.2.2.2 = true) : Ev (fun k => logbookref34_Text.f k (calT a).1 (calT a).2.1 (calT a).2.2.1 (calT a).2.2.2.1 (calT a).2.2.2.2.1 (calT a).2.2.2.2.2.1 (calT a).2.2.2.2.2.2.1) (strOfNums (textL34 a)) := by
  obtain ⟨y0, y1, m0, m1, d0, d1, e0, e1, f0, f1, g0, g1, i0, i1⟩ := calT_in a h0 h
  have q : ∀ n : Int, 0 ≤ n → n ≤ 99 → Ev (fun k => logbookref34_two.f k n 2) (strOfNums (p2 n)) := fun n n0 n1 => by
    have := two_tells n n0 (by omega) 2 (by decide)
    rw [padL_two n n0 n1] at this
    exact this
  have hy := two_tells (calT a).1 (by omega) (by omega) 4 (by decide)
  have hyl := dec_len4 (calT a).1 (by omega) y1
  rw [padL_done 48 4 _ (by omega)] at hy
  have hi := two_tells (calT a).2.2.2.2.2.2.1 i0 (by omega) 6 (by decide)
  have z2 : ∀ n, (strOfNums (p2 n)).size = 2 := fun n => by rw [size_str]; rfl
  have z4 : (strOfNums (Num.dec (calT a).1)).size = 4 := by rw [size_str]; exact hyl
  have z6 : (strOfNums (padL 48 6 (Num.dec (calT a).2.2.2.2.2.2.1))).size ≤ 20 := by
    rw [size_str, padL_len]
    have := decF_len 20 (calT a).2.2.2.2.2.2.1
    unfold Num.dec
    omega
  refine Ev.bind hy (Ev.pos (by omega) (Ev.bind (q _ (by omega) (by omega)) (Ev.pos (by rw [z2]; omega) (Ev.pos (by rw [z2]; omega) (Ev.bind (q _ (by omega) (by omega)) (Ev.pos (by rw [z2, z2]; omega) (Ev.pos (by rw [z2, z2]; omega) (Ev.bind (q _ (by omega) (by omega)) (Ev.pos (by rw [z2, z2, z2]; omega) (Ev.pos (by rw [z2, z2, z2]; omega) (Ev.bind (q _ (by omega) (by omega)) (Ev.pos (by rw [z2, z2, z2, z2]; omega) (Ev.pos (by rw [z2, z2, z2, z2]; omega) (Ev.bind (q _ (by omega) (by omega)) (Ev.pos (by rw [z2, z2, z2, z2, z2]; omega) (Ev.pos (by rw [z2, z2, z2, z2, z2]; omega) (Ev.bind hi (Ev.pos (by rw [z2, z2, z2, z2, z2]; omega) (Ev.eq (Ev.now _) ?_)))))))))))))))))))
  rw [lit_32, lit_58, lit_45, lit_46]
  simp only [str_append]
  congr 1
  unfold textL34
  simp only [List.append_assoc]
  rfl
/-! ### values -/
theorem clean_go (s : ByteArray) (hs : s.size ≤ 140737488351232) : ∀ (d i : Nat), d + i = s.size → Ev (fun k => logbookref40_Clean.l0 k s (strOfNums (((bytesOf s).take i).map dotB)) (i : Int)) (strOfNums ((bytesOf s).map dotB))
  | 0, i, hd => by
    rw [List.take_of_length_le (by rw [bytesOf_length]; omega)]
    exact Ev.step (fun k => logbookref40_Clean.l0.eq_2 _ _ _ _) (Ev.neg (by omega) (Ev.now _))
  | d + 1, i, hd => by
    have hi : i < s.size := by omega
    have ih := clean_go s hs d (i + 1) (by omega)
    have hz : (strOfNums (((bytesOf s).take i).map dotB)).size = i := by
      rw [size_str, List.length_map, List.length_take, bytesOf_length]
      omega
    have hw : wrap64 ((i : Int) + 1) = ((i + 1 : Nat) : Int) := by
      rw [w64 (by omega) (by omega)]
      omega
    rw [bt_take s i hi, List.map_append] at ih
    have hx : s.extract ((i : Int)).toNat ((((i + 1 : Nat) : Int))).toNat = strOfNums [bt s (i : Int)] := by
      rw [Int.toNat_natCast, Int.toNat_natCast]
      apply bytesOf_inj
      rw [bytesOf_extract, bt_take s i hi, List.drop_append_of_le_length (by rw [List.length_take, bytesOf_length]; omega), List.drop_of_length_le (by rw [List.length_take, bytesOf_length]; omega), bytes_str]
      · rfl
      · intro x hx
        rw [List.mem_singleton.1 hx]
        exact bytesOf_bytes s _ (by rw [bt_get, List.getD_eq_getElem?_getD, List.getElem?_eq_getElem (by rw [bytesOf_length]; exact hi)]; exact List.getElem_mem _)
    refine Ev.step (fun k => logbookref40_Clean.l0.eq_2 _ _ _ _) (Ev.pos (by omega) (Ev.pos (by omega) ?_))
    rw [hw, hx]
    generalize bt s (i : Int) = c at ih
    have z1 : (strOfNums [c]).size = 1 := size_str _
    have yes : dotB c = 46 → Ev (fun k => logbookref40_Clean.l0 k s (strOfNums (((bytesOf s).take i).map dotB) ++ (⟨#[46]⟩ : ByteArray)) ((i + 1 : Nat) : Int)) (strOfNums ((bytesOf s).map dotB)) := fun e => by
      rw [lit_46, str_append]
      have ih2 := ih
      rw [show [c].map dotB = [46] from congrArg (fun z => [z]) e] at ih2
      exact ih2
    refine Ev.both (fun h32 => Ev.pos (by omega) (yes (if_pos (.inl h32)))) (fun h32 => Ev.both (fun h126 => Ev.pos (by omega) (yes (if_pos (.inr (by omega))))) (fun h126 => Ev.pos (by omega) (Ev.pos (by omega) (Ev.pos (by omega) ?_))))
    rw [str_append]
    rw [show [c].map dotB = [c] from congrArg (fun z => [z]) (if_neg (by omega))] at ih
    exact ih
def cleanS (s : ByteArray) : ByteArray := strOfNums ((bytesOf s).map dotB)
theorem cleanS_size (s : ByteArray) : (cleanS s).size = s.size := by
  unfold cleanS
  rw [size_str, List.length_map, bytesOf_length]
theorem clean_tells (s : ByteArray) (hs : s.size ≤ 140737488351232) : format_Clean.f s = some (cleanS s) := if_pos hs
theorem refclean_tells (s : ByteArray) (hs : s.size ≤ 140737488351232) : Ev (fun k => logbookref40_Clean.f k s) (cleanS s) := clean_go s hs s.size 0 rfl
theorem awake_tells : Ev (fun k => logbooklaw40_awake.f k) true := by
  refine Ev.bind (clock_tells 0 (by decide) (by decide)) (Ev.eq (Ev.now _) ?_)
  decide +kernel
/-! ### names -/
def Good (c : Int) (i : Nat) : Prop := c = 95 ∨ (65 ≤ c ∧ c ≤ 90) ∨ (48 ≤ c ∧ c ≤ 57 ∧ 0 < i)
theorem wi {i n : Nat} (h : i ≤ n) (hn : n ≤ 1000000) : wrap64 ((i : Int) + 1) = ((i + 1 : Nat) : Int) := by
  rw [w64 (by omega) (by omega)]
  omega
theorem j1_step (s : ByteArray) (i : Nat) (hi : i < s.size) (hs : s.size ≤ 100000) (R : Bool) (hg : Good (bt s i) i → Ev (fun k => logbookref04_Name.l0 k s ((i + 1 : Nat) : Int)) R) (hb : ¬ Good (bt s i) i → R = false) :
    Ev (fun k => logbookref04_Name.j1 k s i true) R := by
  refine Ev.step (fun k => logbookref04_Name.j1.eq_2 _ _ _ _) (Ev.pos rfl (Ev.pos (by omega) (Ev.pos (by omega) ?_)))
  rw [wi (i := i) (n := s.size) (by omega) (by omega)]
  unfold Good at hg hb
  generalize bt s (i : Int) = c at hg hb ⊢
  by_cases a : 65 ≤ c ∧ c ≤ 90
  · have e := hg (Or.inr (Or.inl a))
    exact Ev.pos a.1 (Ev.pos a.2 (Ev.pos (by omega) e))
  · by_cases u : c = 95
    · have e := hg (Or.inl u)
      exact Ev.both (fun _ => Ev.neg (by omega) (Ev.pos (by omega) (Ev.pos u e))) (fun _ => Ev.pos (by omega) (Ev.pos u e))
    · by_cases d : 48 ≤ c ∧ c ≤ 57
      · refine Ev.neg (by omega) (Ev.pos (by omega) (Ev.neg u (Ev.pos (by omega) ?_)))
        refine Ev.both (fun z => hg (Or.inr (Or.inr ⟨d.1, d.2, by omega⟩))) (fun z => Ev.eq (Ev.now _) (hb (by omega)).symm)
      · have e : false = R := (hb (by omega)).symm
        exact Ev.both (fun _ => Ev.neg (by omega) (Ev.pos (by omega) (Ev.neg u (Ev.neg (by omega) (Ev.eq (Ev.now _) e))))) (fun _ => Ev.both (fun _ => Ev.neg u (Ev.neg (by omega) (Ev.eq (Ev.now _) e))) (fun _ => Ev.neg u (Ev.eq (Ev.now _) e)))
theorem name_long (s : ByteArray) (hs : s.size ≤ 100000) (h : 64 < s.size) : ∀ (d i : Nat), d + i = 65 → Ev (fun k => logbookref04_Name.l0 k s i) false
  | 0, i, hd => by
    refine Ev.step (fun k => logbookref04_Name.l0.eq_2 _ _ _) (Ev.both (fun _ => ?_) (fun _ => ?_))
    · rw [decide_eq_false (show ¬ (i : Int) ≤ 64 by omega)]
      exact Ev.step (fun k => logbookref04_Name.j1.eq_2 _ _ _ _) (Ev.neg (by simp) (Ev.pos (by omega) (Ev.eq (Ev.now _) (decide_eq_false (by omega)))))
    · exact Ev.step (fun k => logbookref04_Name.j1.eq_2 _ _ _ _) (Ev.neg (by simp) (Ev.pos (by omega) (Ev.eq (Ev.now _) (decide_eq_false (by omega)))))
  | d + 1, i, hd => by
    refine Ev.step (fun k => logbookref04_Name.l0.eq_2 _ _ _) (Ev.pos (by omega) ?_)
    rw [decide_eq_true (show (i : Int) ≤ 64 by omega)]
    exact j1_step s i (by omega) hs false (fun _ => name_long s hs h d (i + 1) (by omega)) (fun _ => rfl)
theorem name_short (s : ByteArray) (hs : s.size ≤ 64) (h1 : 1 ≤ s.size) (R : Bool) : ∀ (d i : Nat), d + i = s.size → (R = true → ∀ j, i ≤ j → j < s.size → Good (bt s j) j) → (R = false → ∃ j, i ≤ j ∧ j < s.size ∧ ¬ Good (bt s j) j) → Ev (fun k => logbookref04_Name.l0 k s i) R
  | 0, i, hd, ht, hf => by
    have e : R = true := by
      cases R with
      | true => rfl
      | false =>
        obtain ⟨j, h2, h3, _⟩ := hf rfl
        omega
    refine Ev.step (fun k => logbookref04_Name.l0.eq_2 _ _ _) (Ev.neg (by omega) ?_)
    exact Ev.step (fun k => logbookref04_Name.j1.eq_2 _ _ _ _) (Ev.neg (by simp) (Ev.pos (by omega) (Ev.eq (Ev.now _) (by rw [e]; exact decide_eq_true (by omega)))))
  | d + 1, i, hd, ht, hf => by
    refine Ev.step (fun k => logbookref04_Name.l0.eq_2 _ _ _) (Ev.pos (by omega) ?_)
    rw [decide_eq_true (show (i : Int) ≤ 64 by omega)]
    refine j1_step s i (by omega) (by omega) R (fun hg => ?_) (fun hn => ?_)
    · refine name_short s hs h1 R d (i + 1) (by omega) (fun hr j h2 h3 => ht hr j (by omega) h3) (fun hr => ?_)
      obtain ⟨j, h2, h3, h4⟩ := hf hr
      refine ⟨j, ?_, h3, h4⟩
      rcases Nat.lt_or_ge i j with h | h
      · exact h
      · obtain rfl : j = i := by omega
        exact absurd hg h4
    · cases R with
      | false => rfl
      | true => exact absurd (ht rfl i (Nat.le_refl _) (by omega)) hn
def nameV (s : ByteArray) : Bool := if s.size = 0 then false else if s.size > 64 then false else if 48 ≤ bt s 0 ∧ bt s 0 ≤ 57 then false else (bytesOf s).all nameB
theorem name_f (s : ByteArray) : item_Name.f s = some (nameV s) := by
  unfold item_Name.f nameV
  split
  · rfl
  · split
    · rfl
    · split <;> rfl
theorem nameB_iff (c : Int) : nameB c = true ↔ (c = 95 ∨ (65 ≤ c ∧ c ≤ 90) ∨ (48 ≤ c ∧ c ≤ 57)) := by
  constructor
  · intro h
    apply Decidable.byContradiction
    intro hn
    rw [nameB_no hn] at h
    cases h
  · exact nameB_yes
theorem all_bytes (s : ByteArray) : (bytesOf s).all nameB = true ↔ ∀ j, j < s.size → nameB (bt s (j : Nat)) = true := by
  rw [List.all_eq_true]
  constructor
  · intro h j hj
    have h1 : j < (bytesOf s).length := by rw [bytesOf_length]; exact hj
    have := h _ (List.getElem_mem h1)
    rw [bt_get, List.getD_eq_getElem?_getD, List.getElem?_eq_getElem h1]
    exact this
  · intro h x hx
    obtain ⟨j, hj, rfl⟩ := List.mem_iff_getElem.1 hx
    rw [bytesOf_length] at hj
    have h1 : j < (bytesOf s).length := by rw [bytesOf_length]; exact hj
    have := h j hj
    rw [bt_get, List.getD_eq_getElem?_getD, List.getElem?_eq_getElem h1] at this
    exact this
theorem ref_name (s : ByteArray) (hs : s.size ≤ 100000) : Ev (fun k => logbookref04_Name.f k s) (nameV s) := by
  unfold nameV
  by_cases h0 : s.size = 0
  · rw [if_pos h0]
    exact Ev.step (fun k => logbookref04_Name.l0.eq_2 _ _ _) (Ev.neg (by omega) (Ev.step (fun k => logbookref04_Name.j1.eq_2 _ _ _ _) (Ev.neg (by simp) (Ev.neg (by omega) (Ev.now _)))))
  rw [if_neg h0]
  by_cases h64 : s.size > 64
  · rw [if_pos h64]
    exact name_long s hs h64 65 0 rfl
  rw [if_neg h64]
  by_cases hd : 48 ≤ bt s 0 ∧ bt s 0 ≤ 57
  · rw [if_pos hd]
    refine name_short s (by omega) (by omega) false s.size 0 (by omega) (fun h => by cases h) (fun _ => ⟨0, Nat.le_refl _, by omega, ?_⟩)
    unfold Good
    have e : bt s ((0 : Nat) : Int) = bt s 0 := rfl
    rw [e]
    omega
  · rw [if_neg hd]
    refine name_short s (by omega) (by omega) _ s.size 0 (by omega) (fun h j _ hj => ?_) (fun h => ?_)
    · have h1 := (nameB_iff _).1 ((all_bytes s).1 h j hj)
      unfold Good
      rcases Nat.eq_zero_or_pos j with hz | hz
      · subst hz
        have e : bt s ((0 : Nat) : Int) = bt s 0 := rfl
        rw [e] at h1 ⊢
        omega
      · omega
    · apply Classical.byContradiction
      intro hn
      have : (bytesOf s).all nameB = true := (all_bytes s).2 (fun j hj => by
        rw [nameB_iff]
        have : Good (bt s j) j := Classical.byContradiction fun hx => hn ⟨j, Nat.zero_le _, hj, hx⟩
        unfold Good at this
        omega)
      rw [this] at h
      cases h
/-! ### cuts -/
def idxE : List Int → Int
  | [] => -1
  | b :: l => if b = 61 then 0 else if idxE l = -1 then -1 else idxE l + 1
theorem u61 (b : UInt8) : (b == 61) = decide ((b.toNat : Int) = 61) := by
  by_cases h : b = 61
  · subst h
    rfl
  · rw [beq_false_of_ne h]
    symm
    apply decide_eq_false
    intro e
    apply h
    apply UInt8.toNat_inj.1
    show b.toNat = 61
    omega
theorem idx_eq : ∀ l : List UInt8, Lib.indexByte l 61 = idxE (l.map fun b => (b.toNat : Int))
  | [] => rfl
  | b :: l => by
    rw [List.map_cons, Lib.indexByte, idxE, idx_eq l, u61]
    simp only [decide_eq_true_eq, beq_iff_eq]
theorem idxE_cases : ∀ l : List Int, (idxE l = -1 ∧ ∀ j, j < l.length → l.getD j 0 ≠ 61) ∨ (∃ m : Nat, idxE l = m ∧ m < l.length ∧ l.getD m 0 = 61 ∧ ∀ j, j < m → l.getD j 0 ≠ 61)
  | [] => .inl ⟨rfl, fun j h => by simp at h⟩
  | c :: r => by
    by_cases e : c = 61
    · exact .inr ⟨0, by simp [idxE, e], by simp, by simpa using e, fun j h => by omega⟩
    · rcases idxE_cases r with ⟨h1, h2⟩ | ⟨m, h1, h2, h3, h4⟩
      · refine .inl ⟨by rw [idxE, if_neg e, if_pos h1], fun j hj => ?_⟩
        cases j with
        | zero => simpa using e
        | succ j => simpa using h2 j (by simpa using hj)
      · refine .inr ⟨m + 1, by rw [idxE, if_neg e, h1, if_neg (by omega)]; omega, by simpa using h2, by simpa using h3, fun j hj => ?_⟩
        cases j with
        | zero => simpa using e
        | succ j => simpa using h4 j (by omega)
def eqs : ByteArray := ⟨#[61]⟩
theorem index_tells (s : ByteArray) : stringslite_Index.f s eqs = some (idxE (bytesOf s)) := by
  have e : stringslite_Index.f s eqs = some (Lib.indexByte s.data.toList 61) := rfl
  rw [e, idx_eq]
  rfl
def splitV (s : ByteArray) (m : Nat) : ByteArray × ByteArray × Bool := if nameV (s.extract 0 m) = true then (s.extract 0 m, s.extract (m + 1) s.size, true) else (⟨#[]⟩, ⟨#[]⟩, false)
theorem weq {m n : Nat} (h : m ≤ n) (hn : n ≤ 1000000) : wrap64 ((m : Int) + ((eqs.size : Nat) : Int)) = ((m + 1 : Nat) : Int) := by
  have h1 : ((eqs.size : Nat) : Int) = 1 := rfl
  generalize ((eqs.size : Nat) : Int) = z at h1 ⊢
  subst h1
  exact wi h hn
theorem split_hit (s : ByteArray) (hs : s.size ≤ 100000) (m : Nat) (h : idxE (bytesOf s) = m) (hm : m < s.size) : item_Split.f s = some (splitV s m) := by
  have b1 : m ≤ s.size := by omega
  have b2 : s.size ≤ 1000000 := by omega
  have e1 : strings_Cut.f s eqs = some (s.extract 0 m, s.extract (m + 1) s.size, true) := by
    unfold strings_Cut.f stringslite_Cut.f
    rw [index_tells, h]
    simp only [Option.bind_some]
    rw [weq b1 b2, if_pos (by omega), if_pos (by omega), if_pos (by omega), if_pos (by omega), if_pos (by omega)]
    rfl
  show (strings_Cut.f s eqs).bind _ = _
  rw [e1]
  simp only [Option.bind_some]
  rw [if_pos trivial, name_f]
  simp only [Option.bind_some]
  unfold splitV
  split <;> rfl
theorem split_miss (s : ByteArray) (h : idxE (bytesOf s) = -1) : item_Split.f s = some (⟨#[]⟩, ⟨#[]⟩, false) := by
  have e1 : strings_Cut.f s eqs = some (s, ⟨#[]⟩, false) := by
    unfold strings_Cut.f stringslite_Cut.f
    rw [index_tells, h]
    rfl
  show (strings_Cut.f s eqs).bind _ = _
  rw [e1]
  rfl
theorem ref_hit (s : ByteArray) (hs : s.size ≤ 100000) (m : Nat) (hm : m < s.size) (he : bt s (m : Nat) = 61) (hn : ∀ j, j < m → bt s (j : Nat) ≠ 61) : ∀ (d i : Nat), d + i = m → Ev (fun k => logbookref04_Split.l0 k s i) (splitV s m)
  | 0, i, hd => by
    obtain rfl : i = m := by omega
    have hsz : (s.extract 0 i).size ≤ 100000 := by
      rw [ByteArray.size_extract]
      omega
    refine Ev.step (fun k => logbookref04_Split.l0.eq_2 _ _ _) ?_
    rw [wi (i := i) (n := s.size) (by omega) (by omega)]
    refine Ev.pos (by omega) (Ev.pos (by omega) (Ev.pos he (Ev.pos (by omega) ?_)))
    rw [Int.toNat_natCast, Int.toNat_natCast]
    refine Ev.bind (ref_name _ hsz) ?_
    unfold splitV
    refine Ev.both (fun h => ?_) (fun h => ?_)
    · rw [if_pos h]
      exact Ev.pos (by omega) (Ev.pos (by omega) (Ev.now _))
    · rw [if_neg h]
      exact Ev.now _
  | d + 1, i, hd => by
    refine Ev.step (fun k => logbookref04_Split.l0.eq_2 _ _ _) (Ev.pos (by omega) (Ev.pos (by omega) (Ev.neg (hn i (by omega)) ?_)))
    rw [wi (i := i) (n := s.size) (by omega) (by omega)]
    exact ref_hit s hs m hm he hn d (i + 1) (by omega)
theorem ref_miss (s : ByteArray) (hs : s.size ≤ 100000) (hn : ∀ j, j < s.size → bt s (j : Nat) ≠ 61) : ∀ (d i : Nat), d + i = s.size → Ev (fun k => logbookref04_Split.l0 k s i) (⟨#[]⟩, ⟨#[]⟩, false)
  | 0, i, hd => Ev.step (fun k => logbookref04_Split.l0.eq_2 _ _ _) (Ev.neg (by omega) (Ev.now _))
  | d + 1, i, hd => by
    refine Ev.step (fun k => logbookref04_Split.l0.eq_2 _ _ _) (Ev.pos (by omega) (Ev.pos (by omega) (Ev.neg (hn i (by omega)) ?_)))
    rw [wi (i := i) (n := s.size) (by omega) (by omega)]
    exact ref_miss s hs hn d (i + 1) (by omega)
theorem split_tells (s : ByteArray) (hs : s.size ≤ 100000) : ∃ v, item_Split.f s = some v ∧ Ev (fun k => logbookref04_Split.f k s) v := by
  rcases idxE_cases (bytesOf s) with ⟨h1, h2⟩ | ⟨m, h1, h2, h3, h4⟩
  · refine ⟨_, split_miss s h1, ?_⟩
    exact ref_miss s hs (fun j hj => by rw [bt_get]; exact h2 j (by rw [bytesOf_length]; exact hj)) s.size 0 (by omega)
  · rw [bytesOf_length] at h2
    refine ⟨_, split_hit s hs m h1 h2, ?_⟩
    exact ref_hit s hs m h2 (by rw [bt_get]; exact h3) (fun j hj => by rw [bt_get]; exact h4 j hj) m 0 (by omega)
theorem split_sizes (s : ByteArray) (hs : s.size ≤ 100000) : ∃ v, item_Split.f s = some v ∧ Ev (fun k => logbookref04_Split.f k s) v ∧ v.1.size + v.2.1.size ≤ s.size := by
  rcases idxE_cases (bytesOf s) with ⟨h1, h2⟩ | ⟨m, h1, h2, h3, h4⟩
  · refine ⟨_, split_miss s h1, ?_, Nat.zero_le _⟩
    exact ref_miss s hs (fun j hj => by rw [bt_get]; exact h2 j (by rw [bytesOf_length]; exact hj)) s.size 0 (by omega)
  · rw [bytesOf_length] at h2
    refine ⟨_, split_hit s hs m h1 h2, ref_hit s hs m h2 (by rw [bt_get]; exact h3) (fun j hj => by rw [bt_get]; exact h4 j hj) m 0 (by omega), ?_⟩
    unfold splitV
    split
    · show (s.extract 0 m).size + (s.extract (m + 1) s.size).size ≤ s.size
      rw [ByteArray.size_extract, ByteArray.size_extract]
      omega
    · exact Nat.zero_le _
/-! ### the reference: each text is put among those that rise -/
def less (a b : ByteArray) : Bool := Op.bytesLess a.toList b.toList
theorem bl : ∀ (x y : List UInt8), Op.bytesLess x y = decide (x < y)
  | [], [] => rfl
  | _ :: _, [] => by simp [Op.bytesLess]
  | [], _ :: _ => by simp [Op.bytesLess]
  | a :: x, b :: y => by
    rw [Op.bytesLess, bl x y]
    by_cases h : a < b <;> by_cases h' : a = b <;> simp [h, h', List.cons_lt_cons_iff]
theorem less_iff : ∀ x y : List UInt8, Op.bytesLess x y = true ↔ x ≤ y ∧ x ≠ y := fun x y => by
  rw [bl, decide_eq_true_iff]
  constructor
  · intro h
    exact ⟨List.le_of_lt h, fun e => List.lt_irrefl x (by rw [e] at h ⊢; exact h)⟩
  · rintro ⟨h1, h2⟩
    exact Classical.byContradiction fun h => h2 (List.le_antisymm h1 (List.not_lt.1 h))
def ins (s : ByteArray) : List ByteArray → List ByteArray
  | [] => [s]
  | x :: r => if less s x = true then s :: x :: r else x :: ins s r
theorem mem_ins (s y : ByteArray) : ∀ l : List ByteArray, y ∈ ins s l ↔ y = s ∨ y ∈ l
  | [] => by simp [ins]
  | x :: r => by
    rw [ins]
    split
    · simp
    · rw [List.mem_cons, mem_ins s y r, List.mem_cons]
      constructor
      · rintro (h | h | h)
        · exact .inr (.inl h)
        · exact .inl h
        · exact .inr (.inr h)
      · rintro (h | h | h)
        · exact .inr (.inl h)
        · exact .inl h
        · exact .inr (.inr h)
theorem len_ins (s : ByteArray) : ∀ l : List ByteArray, (ins s l).length = l.length + 1
  | [] => rfl
  | x :: r => by
    rw [ins]
    split
    · rfl
    · rw [List.length_cons, len_ins s r, List.length_cons]
def Rises (l : List ByteArray) : Prop := l.Pairwise fun a b => a.toList ≤ b.toList ∧ a ≠ b
theorem ins_rises (s : ByteArray) : ∀ l : List ByteArray, Rises l → s ∉ l → Rises (ins s l)
  | [], _, _ => by simp [ins, Rises]
  | x :: r, h, hs => by
    obtain ⟨h1, h2⟩ := List.pairwise_cons.1 h
    rw [ins]
    by_cases g : less s x = true
    · rw [if_pos g]
      have g1 := (less_iff _ _).1 g
      refine List.pairwise_cons.2 ⟨fun y hy => ?_, h⟩
      rcases List.mem_cons.1 hy with rfl | hy
      · exact ⟨g1.1, fun e => g1.2 (by rw [e])⟩
      · exact ⟨List.le_trans g1.1 (h1 y hy).1, fun e => hs (by rw [e]; exact List.mem_cons_of_mem _ hy)⟩
    · rw [if_neg g]
      refine List.pairwise_cons.2 ⟨fun y hy => ?_, ins_rises s r h2 (fun e => hs (List.mem_cons_of_mem _ e))⟩
      rcases (mem_ins s y r).1 hy with rfl | hy
      · have hne : x ≠ y := fun e => hs (by rw [e]; simp)
        refine ⟨?_, hne⟩
        rcases List.le_total x.toList y.toList with k | k
        · exact k
        · exact absurd ((less_iff _ _).2 ⟨k, fun e => hne (toList_inj e).symm⟩) g
      · exact h1 y hy
open Classical in
theorem put_go (l : List ByteArray) (s : ByteArray) (hl : l.length ≤ 100) : ∀ (d i : Nat) (out : List ByteArray) (done : Bool), d + i = l.length → out.length ≤ 2 * i →
    Ev (fun k => logbookref04_Put.l0 k l s out done i) (if s ∈ l.drop i then l else out ++ (if done = true then l.drop i else ins s (l.drop i)))
  | 0, i, out, done, hd, ho => by
    have e : l.drop i = [] := List.drop_of_length_le (by omega)
    rw [e, if_neg (by simp)]
    refine Ev.step (fun k => logbookref04_Put.l0.eq_2 _ _ _ _ _ _) (Ev.neg (by omega) (Ev.both (fun h => ?_) (fun h => ?_)))
    · rw [if_pos h, List.append_nil]
      exact Ev.now _
    · rw [if_neg h]
      exact Ev.pos (by omega) (Ev.now _)
  | d + 1, i, out, done, hd, ho => by
    have hi : i < l.length := by omega
    have hg : rdOf ByteArray.empty l (i : Int) = l[i] := by
      unfold rdOf
      rw [Int.toNat_natCast, List.getD_eq_getElem?_getD, List.getElem?_eq_getElem hi]
      rfl
    have hdr : l.drop i = l[i] :: l.drop (i + 1) := List.drop_eq_getElem_cons hi
    refine Ev.step (fun k => logbookref04_Put.l0.eq_2 _ _ _ _ _ _) ?_
    rw [hg, wi (i := i) (n := l.length) (by omega) (by omega), hdr]
    generalize l[i] = x
    refine Ev.pos (by omega) (Ev.pos (by omega) ?_)
    by_cases hx : x.toList = s.toList
    · have e : x = s := toList_inj hx
      rw [if_pos (by rw [e]; simp)]
      exact Ev.pos hx (Ev.now _)
    · have hne : s ≠ x := fun e => hx (by rw [e])
      have hm : (s ∈ x :: l.drop (i + 1)) = (s ∈ l.drop (i + 1)) := by
        rw [List.mem_cons]
        exact propext ⟨fun h => h.resolve_left hne, .inr⟩
      simp only [hm]
      refine Ev.neg hx (Ev.both (fun h => ?_) (fun h => ?_))
      · refine Ev.both (fun hdn => Ev.pos (by omega) ?_) (fun hdn => Ev.pos (by omega) (Ev.bindc rfl (Ev.pos (by rw [List.length_append]; simp; omega) ?_)))
        · subst hdn
          refine Ev.eq (put_go l s hl d (i + 1) (out ++ [x]) true (by omega) (by simp; omega)) ?_
          simp
        · refine Ev.eq (put_go l s hl d (i + 1) ((out ++ [s]) ++ [x]) true (by omega) ?_) ?_
          · simp
            omega
          · have hl2 : less s x = true := h
            rw [if_neg hdn, ins, if_pos hl2]
            simp
      · refine Ev.pos (by omega) (Ev.eq (put_go l s hl d (i + 1) (out ++ [x]) done (by omega) (by simp; omega)) ?_)
        have hl2 : ¬ less s x = true := h
        rw [ins, if_neg hl2]
        cases done <;> simp
open Classical in
noncomputable def putS (l : List ByteArray) (s : ByteArray) : List ByteArray := if s ∈ l then l else ins s l
open Classical in
theorem put_tells (l : List ByteArray) (s : ByteArray) (hl : l.length ≤ 100) : Ev (fun k => logbookref04_Put.f k l s) (putS l s) := by
  have := put_go l s hl l.length 0 [] false (by omega) (by simp)
  refine Ev.eq this ?_
  unfold putS
  simp
open Classical in
theorem putS_len {acc : List ByteArray} {x : ByteArray} {i : Nat} (ha : acc.length ≤ i) : (putS acc x).length ≤ i + 1 := by
  unfold putS
  split
  · omega
  · rw [len_ins]
    omega
open Classical in
theorem putS_rises {acc : List ByteArray} {x : ByteArray} (hr : Rises acc) : Rises (putS acc x) := by
  unfold putS
  split
  · exact hr
  · rename_i g
    exact ins_rises x acc hr g
open Classical in
theorem putS_mem {acc : List ByteArray} {x y : ByteArray} : y ∈ putS acc x ↔ y ∈ acc ∨ y = x := by
  unfold putS
  split
  · rename_i g
    constructor
    · exact .inl
    · rintro (h | rfl)
      · exact h
      · exact g
  · rw [mem_ins]
    constructor
    · rintro (h | h)
      · exact .inr h
      · exact .inl h
    · rintro (h | h)
      · exact .inr h
      · exact .inl h
/-! ### entries whose items are checked -/
open Classical in
theorem refc2_go (l : List ByteArray) (hl : l.length ≤ 64) : ∀ (d i n : Nat) (acc : List ByteArray), d + i = l.length → n ≤ 1024 * i → acc.length ≤ i → (∀ x ∈ acc, x.size ≤ 1024) →
    ∃ v : List ByteArray × Int, Ev (fun k => logbookref04_Check.l0 k l (n : Int) acc (i : Int)) v ∧ (v.2 = 0 → v.1.length ≤ 64 ∧ ∀ x ∈ v.1, x.size ≤ 1024)
  | 0, i, n, acc, hd, hn, ha, hz => by
    by_cases h : (n : Int) > 8192
    · exact ⟨(([] : List ByteArray), 22), Ev.step (fun k => logbookref04_Check.l0.eq_2 _ _ _ _ _) (Ev.neg (by omega) (Ev.pos h (Ev.now _))), fun h => absurd h (by decide)⟩
    · exact ⟨(acc, 0), Ev.step (fun k => logbookref04_Check.l0.eq_2 _ _ _ _ _) (Ev.neg (by omega) (Ev.neg h (Ev.now _))), fun _ => ⟨by show acc.length ≤ 64; omega, hz⟩⟩
  | d + 1, i, n, acc, hd, hn, ha, hz => by
    have hi : i < l.length := by omega
    have hg : rdOf ByteArray.empty l (i : Int) = l[i] := by
      unfold rdOf
      rw [Int.toNat_natCast, List.getD_eq_getElem?_getD, List.getElem?_eq_getElem hi]
      rfl
    by_cases hx : (l[i].size : Int) > 1024
    · refine ⟨(([] : List ByteArray), 22), Ev.step (fun k => logbookref04_Check.l0.eq_2 _ _ _ _ _) (Ev.pos (by omega) (Ev.pos (by omega) ?_)), fun h => absurd h (by decide)⟩
      rw [hg]
      exact Ev.pos hx (Ev.now _)
    · obtain ⟨v, h1, h2, h3⟩ := split_sizes l[i] (by omega)
      by_cases hv : v.2.2 = true
      · have hp := put_tells acc l[i] (by omega)
        have hpl : (putS acc l[i]).length ≤ i + 1 := putS_len ha
        have hw : wrap64 ((n : Int) + (l[i].size : Int)) = ((n + l[i].size : Nat) : Int) := by
          rw [w64 (by omega) (by omega)]
          omega
        obtain ⟨q, i1, i2⟩ := refc2_go l hl d (i + 1) (n + l[i].size) (putS acc l[i]) (by omega) (by omega) hpl (fun x hx2 => by
          rcases putS_mem.1 hx2 with h | rfl
          · exact hz x h
          · omega)
        refine ⟨q, Ev.step (fun k => logbookref04_Check.l0.eq_2 _ _ _ _ _) (Ev.pos (by omega) (Ev.pos (by omega) ?_)), i2⟩
        rw [hg, wi (i := i) (n := l.length) (by omega) (by omega), hw]
        exact Ev.neg hx (Ev.bind h2 (Ev.pos hv (Ev.bind hp i1)))
      · refine ⟨(([] : List ByteArray), 23), Ev.step (fun k => logbookref04_Check.l0.eq_2 _ _ _ _ _) (Ev.pos (by omega) (Ev.pos (by omega) ?_)), fun h => absurd h (by decide)⟩
        rw [hg]
        exact Ev.neg hx (Ev.bind h2 (Ev.neg hv (Ev.now _)))
theorem refcheck2 (l : List ByteArray) : ∃ v : List ByteArray × Int, Ev (fun k => logbookref04_Check.f k l) v ∧ (v.2 = 0 → v.1.length ≤ 64 ∧ ∀ x ∈ v.1, x.size ≤ 1024) := by
  by_cases h0 : (l.length : Int) = 0
  · exact ⟨(([] : List ByteArray), 1), Ev.pos h0 (Ev.now _), fun h => absurd h (by decide)⟩
  by_cases h1 : (l.length : Int) > 64
  · exact ⟨(([] : List ByteArray), 22), Ev.neg h0 (Ev.pos h1 (Ev.now _)), fun h => absurd h (by decide)⟩
  obtain ⟨v, e1, e2⟩ := refc2_go l (by omega) l.length 0 0 [] (by omega) (by omega) (Nat.le_refl _) (fun x hx => by cases hx)
  exact ⟨v, Ev.neg h0 (Ev.neg h1 e1), e2⟩
theorem fewb_go (l : List ByteArray) : ∀ (d i : Nat) (x : Int), d + i = min l.length 70 → ∃ b, Ev (fun k => logbooklaw40_few.l0 k l x (i : Int)) b
  | 0, i, x, hd => by
    by_cases h : (l.length : Int) ≤ 70
    · exact ⟨decide (x ≤ 4000), Ev.step (fun k => logbooklaw40_few.l0.eq_2 _ _ _ _) (Ev.neg (by omega) (Ev.pos h (Ev.now _)))⟩
    · exact ⟨false, Ev.step (fun k => logbooklaw40_few.l0.eq_2 _ _ _ _) (Ev.pos (by omega) (Ev.neg (by omega) (Ev.neg h (Ev.now _))))⟩
  | d + 1, i, x, hd => by
    obtain ⟨b, hb⟩ := fewb_go l d (i + 1) (wrap64 (x + (mn ((rdOf ByteArray.empty l (i : Int)).size : Int) 3000))) (by omega)
    refine ⟨b, Ev.step (fun k => logbooklaw40_few.l0.eq_2 _ _ _ _) (Ev.pos (by omega) (Ev.pos (by omega) (Ev.pos (by omega) ?_)))⟩
    rw [wi (i := i) (n := 70) (by omega) (by omega)]
    exact hb
theorem few_tells (l : List ByteArray) : ∃ b, Ev (fun k => logbooklaw40_few.f k l) b := fewb_go l (min l.length 70) 0 0 (by omega)
/-! ### entries with all their items -/
theorem hex_f (n : Int) (h : U64 n) : name_Hex.f n = some (strOfNums (hexL n)) := if_pos h
theorem wn {i n : Nat} (h : i ≤ n) (hn : n ≤ 100000000) : wrap64 ((i : Int) + 1) = ((i + 1 : Nat) : Int) := by
  rw [w64 (by omega) (by omega)]
  omega
theorem refhex_go : ∀ (d i : Nat) (m : Int) (A : List Int), d + i = 16 → A.length = i → 0 ≤ m → m ≤ 18446744073709551615 →
    Ev (fun k => logbookref22_Hex.l0 k m (strOfNums A) i) (strOfNums (hexF d m ++ A))
  | 0, i, m, A, hd, hA, h0, h1 => Ev.step (fun k => logbookref22_Hex.l0.eq_2 _ _ _ _) (Ev.neg (by omega) (Ev.now _))
  | d + 1, i, m, A, hd, hA, h0, h1 => by
    have e1 : Int.tmod m 16 % 256 = m % 16 := by
      rw [Int.tmod_eq_emod_of_nonneg h0]
      omega
    have e2 : IntKind.u64.wrap (Int.tdiv m 16) = m / 16 := by
      rw [Int.tdiv_eq_ediv_of_nonneg h0, wu64 (by omega) (by omega)]
    have ih := refhex_go d (i + 1) (m / 16) (digX (m % 16) :: A) (by omega) (by simp [hA]) (by omega) (by omega)
    have e3 : hexF d (m / 16) ++ digX (m % 16) :: A = hexF (d + 1) m ++ A := by
      rw [hexF, List.append_assoc]
      rfl
    rw [e3] at ih
    have hw := wn (i := i) (n := 16) (by omega) (by omega)
    refine Ev.step (fun k => logbookref22_Hex.l0.eq_2 _ _ _ _) (Ev.pos (by omega) ?_)
    rw [e1, e2, hw]
    refine Ev.both (fun h => Ev.bindc rfl (Ev.pos ?_ ?_)) (fun h => Ev.bindc rfl (Ev.pos ?_ ?_))
    · rw [size_str, size_str]
      simp
      omega
    · rw [str_append]
      have e4 : [(97 + ((m % 16 - 10) % 256)) % 256] ++ A = digX (m % 16) :: A := by
        unfold digX
        rw [if_neg (by omega), show (97 + ((m % 16 - 10) % 256)) % 256 = 87 + m % 16 by omega]
        rfl
      rw [e4]
      exact ih
    · rw [size_str, size_str]
      simp
      omega
    · rw [str_append]
      have e4 : [(48 + m % 16) % 256] ++ A = digX (m % 16) :: A := by
        unfold digX
        rw [if_pos (by omega), show (48 + m % 16) % 256 = 48 + m % 16 by omega]
        rfl
      rw [e4]
      exact ih
theorem refhex_tells (n : Int) (h : U64 n) : Ev (fun k => logbookref22_Hex.f k n) (strOfNums (hexL n)) := by
  have := refhex_go 16 0 n [] (by omega) rfl h.1 h.2
  rw [List.append_nil, ← hexL_F] at this
  exact this
theorem cpad_go (w : Nat) (hw : w ≤ 1000) : ∀ (d : Nat) (l : List Int), w - l.length = d → l.length ≤ 1000 → Ev (fun k => civil_pad.l0 k (w : Int) (strOfNums l)) (strOfNums (padL 48 w l))
  | 0, l, hd, hl => by
    rw [padL_done _ _ _ (by omega)]
    exact Ev.step (fun k => civil_pad.l0.eq_2 _ _ _) (Ev.neg (by rw [size_str]; omega) (Ev.now _))
  | d + 1, l, hd, hl => by
    have ih := cpad_go w hw d (48 :: l) (by rw [List.length_cons]; omega) (by rw [List.length_cons]; omega)
    rw [padL_step _ _ _ (by omega)]
    refine Ev.step (fun k => civil_pad.l0.eq_2 _ _ _) (Ev.pos (by rw [size_str]; omega) (Ev.pos ?_ ?_))
    · rw [size_str]
      omega
    · rw [lit1_cons 48]
      exact ih
theorem cpad_tells (n : Int) (h0 : 0 ≤ n) (h1 : n ≤ 1000000) (w : Nat) (hw : w ≤ 1000) : Ev (fun k => civil_pad.f k n (w : Int)) (strOfNums (padL 48 w (Num.dec n))) := by
  refine Ev.congr (f := fun k => (export_Decimal.f k (IntKind.u64.wrap (mx n 0))).bind fun t => civil_pad.l0 k (w : Int) t) (fun k => rfl) ?_
  have hm : mx n 0 = n := by
    unfold mx
    omega
  rw [hm, wu64 (by omega) (by omega)]
  exact Ev.bind (Num.decimal_tells n h0 (by omega)) (cpad_go w hw _ _ rfl (Nat.le_trans (decF_len 20 n) (by decide)))
theorem ctext_tells (a : Int) (h0 : 0 ≤ a) (h1 : a ≤ 18446744073709551615) (h : (calT a).2.2.2.2.2.2.2 = true) : Ev (fun k => civil_Time_Text.f k (calT a).1 (calT a).2.1 (calT a).2.2.1 (calT a).2.2.2.1 (calT a).2.2.2.2.1 (calT a).2.2.2.2.2.1 (calT a).2.2.2.2.2.2.1) (strOfNums (textL34 a)) := by
  obtain ⟨y0, y1, m0, m1, d0, d1, e0, e1, f0, f1, g0, g1, i0, i1⟩ := calT_in a h0 h
  have q : ∀ n : Int, 0 ≤ n → n ≤ 99 → Ev (fun k => civil_pad.f k n 2) (strOfNums (p2 n)) := fun n n0 n1 => by
    have := cpad_tells n n0 (by omega) 2 (by decide)
    rw [padL_two n n0 n1] at this
    exact this
  have hy := cpad_tells (calT a).1 (by omega) (by omega) 4 (by decide)
  have hyl := dec_len4 (calT a).1 (by omega) y1
  rw [padL_done 48 4 _ (by omega)] at hy
  have hi := cpad_tells (calT a).2.2.2.2.2.2.1 i0 (by omega) 6 (by decide)
  have z2 : ∀ n, (strOfNums (p2 n)).size = 2 := fun n => by rw [size_str]; rfl
  have z4 : (strOfNums (Num.dec (calT a).1)).size = 4 := by rw [size_str]; exact hyl
  have z6 : (strOfNums (padL 48 6 (Num.dec (calT a).2.2.2.2.2.2.1))).size ≤ 20 := by
    rw [size_str, padL_len]
    have := decF_len 20 (calT a).2.2.2.2.2.2.1
    unfold Num.dec
    omega
  refine Ev.bind hy (Ev.pos (by omega) (Ev.bind (q _ (by omega) (by omega)) (Ev.pos (by rw [z2]; omega) (Ev.pos (by rw [z2]; omega) (Ev.bind (q _ (by omega) (by omega)) (Ev.pos (by rw [z2, z2]; omega) (Ev.pos (by rw [z2, z2]; omega) (Ev.bind (q _ (by omega) (by omega)) (Ev.pos (by rw [z2, z2, z2]; omega) (Ev.pos (by rw [z2, z2, z2]; omega) (Ev.bind (q _ (by omega) (by omega)) (Ev.pos (by rw [z2, z2, z2, z2]; omega) (Ev.pos (by rw [z2, z2, z2, z2]; omega) (Ev.bind (q _ (by omega) (by omega)) (Ev.pos (by rw [z2, z2, z2, z2, z2]; omega) (Ev.pos (by rw [z2, z2, z2, z2, z2]; omega) (Ev.bind hi (Ev.pos (by rw [z2, z2, z2, z2, z2]; omega) (Ev.eq (Ev.now _) ?_)))))))))))))))))))
  rw [lit_32, lit_58, lit_45, lit_46]
  simp only [str_append]
  congr 1
  unfold textL34
  simp only [List.append_assoc]
  rfl
def lineV (x : ByteArray) : ByteArray := match item_Split.f x with
  | some v => (((⟨#[32, 32, 32, 32]⟩ : ByteArray) ++ v.1) ++ (⟨#[61]⟩ : ByteArray)) ++ cleanS v.2.1
  | none => ByteArray.empty
theorem verb_go (l : List ByteArray) (hl : l.length ≤ 64) (hz : ∀ x ∈ l, x.size ≤ 1024) : ∀ (d i : Nat) (acc : List ByteArray), d + i = l.length → acc.length ≤ i + 1 →
    Ev (fun k => format_Verbose.l0 k acc l (l.length : Nat) (i : Int)) (acc ++ (l.drop i).map lineV)
  | 0, i, acc, hd, ha => by
    rw [List.drop_of_length_le (by omega), List.map_nil, List.append_nil]
    exact Ev.step (fun k => format_Verbose.l0.eq_2 _ _ _ _ _) (Ev.neg (by omega) (Ev.now _))
  | d + 1, i, acc, hd, ha => by
    have hi : i < l.length := by omega
    have hg : rdOf ByteArray.empty l (i : Int) = l[i] := by
      unfold rdOf
      rw [Int.toNat_natCast, List.getD_eq_getElem?_getD, List.getElem?_eq_getElem hi]
      rfl
    have hx := hz _ (List.getElem_mem hi)
    obtain ⟨v, hv, hr, hvz⟩ := split_sizes l[i] (by omega)
    have hz2 := cleanS_size v.2.1
    have hlv : lineV l[i] = (((⟨#[32, 32, 32, 32]⟩ : ByteArray) ++ v.1) ++ (⟨#[61]⟩ : ByteArray)) ++ cleanS v.2.1 := by
      unfold lineV
      rw [hv]
    have ih := verb_go l hl hz d (i + 1) (acc ++ [lineV l[i]]) (by omega) (by rw [List.length_append]; simp; omega)
    rw [List.append_assoc] at ih
    rw [List.drop_eq_getElem_cons hi, List.map_cons]
    refine Ev.step (fun k => format_Verbose.l0.eq_2 _ _ _ _ _) (Ev.pos (by omega) (Ev.pos (by omega) (Ev.pos (by omega) ?_)))
    rw [hg, wi (i := i) (n := l.length) (by omega) (by omega)]
    refine Ev.bindc hv (Ev.pos (by omega) (Ev.pos (by omega) (Ev.bindc (clean_tells _ (by omega)) (Ev.pos (by omega) (Ev.pos (by omega) ?_)))))
    rw [← hlv]
    exact ih
theorem rverb_go (l : List ByteArray) (hl : l.length ≤ 64) (hz : ∀ x ∈ l, x.size ≤ 1024) (a b c e : Int) : ∀ (d i : Nat) (acc : List ByteArray), d + i = l.length → acc.length ≤ i + 1 →
    Ev (fun k => logbookref40_Verbose.l0 k acc (i : Int) a b c e l) (acc ++ (l.drop i).map lineV)
  | 0, i, acc, hd, ha => by
    rw [List.drop_of_length_le (by omega), List.map_nil, List.append_nil]
    exact Ev.step (fun k => logbookref40_Verbose.l0.eq_2 _ _ _ _ _ _ _ _) (Ev.neg (by omega) (Ev.now _))
  | d + 1, i, acc, hd, ha => by
    have hi : i < l.length := by omega
    have hg : rdOf ByteArray.empty l (i : Int) = l[i] := by
      unfold rdOf
      rw [Int.toNat_natCast, List.getD_eq_getElem?_getD, List.getElem?_eq_getElem hi]
      rfl
    have hx := hz _ (List.getElem_mem hi)
    obtain ⟨v, hv, hr, hvz⟩ := split_sizes l[i] (by omega)
    have hz2 := cleanS_size v.2.1
    have hlv : lineV l[i] = (((⟨#[32, 32, 32, 32]⟩ : ByteArray) ++ v.1) ++ (⟨#[61]⟩ : ByteArray)) ++ cleanS v.2.1 := by
      unfold lineV
      rw [hv]
    have ih := rverb_go l hl hz a b c e d (i + 1) (acc ++ [lineV l[i]]) (by omega) (by rw [List.length_append]; simp; omega)
    rw [List.append_assoc] at ih
    rw [List.drop_eq_getElem_cons hi, List.map_cons]
    refine Ev.step (fun k => logbookref40_Verbose.l0.eq_2 _ _ _ _ _ _ _ _) (Ev.pos (by omega) (Ev.pos (by omega) ?_))
    rw [hg, wi (i := i) (n := l.length) (by omega) (by omega)]
    refine Ev.bind hr (Ev.pos (by omega) (Ev.pos (by omega) (Ev.bind (refclean_tells _ (by omega)) (Ev.pos (by omega) (Ev.pos (by omega) ?_)))))
    rw [← hlv]
    exact ih
theorem dec_size (n : Int) : (strOfNums (Num.dec n)).size ≤ 20 := by
  rw [size_str]
  exact decF_len 20 n
theorem hex_size (n : Int) : (strOfNums (hexL n)).size = 16 := by
  rw [size_str, hexL_len]
theorem head_both (s : ByteArray) (hs : s.size ≤ 1000) (l : List ByteArray) (hl : l.length ≤ 64) (hz : ∀ x ∈ l, x.size ≤ 1024) (a b c d : Int) (ha : U64 a) (hc : U64 c) (hd : U64 d) :
    ∃ V : List ByteArray, Ev (fun k => format_Verbose.j0 k s a b c d l) V ∧ Ev (fun k => logbookref40_Verbose.j0 k s a b c d l) V ∧ V.length ≤ 65 := by
  have z1 := dec_size a
  have z2 := hex_size d
  have z3 := dec_size c
  have g1 := verb_go l hl hz l.length 0 [((((((s ++ (⟨#[32, 91, 105, 61]⟩ : ByteArray)) ++ strOfNums (Num.dec a)) ++ (⟨#[59, 98, 61]⟩ : ByteArray)) ++ strOfNums (hexL d)) ++ (⟨#[59, 109, 61]⟩ : ByteArray)) ++ strOfNums (Num.dec c)) ++ (⟨#[93]⟩ : ByteArray)] (by omega) (by simp)
  have g2 := rverb_go l hl hz a b c d l.length 0 [((((((s ++ (⟨#[32, 91, 105, 61]⟩ : ByteArray)) ++ strOfNums (Num.dec a)) ++ (⟨#[59, 98, 61]⟩ : ByteArray)) ++ strOfNums (hexL d)) ++ (⟨#[59, 109, 61]⟩ : ByteArray)) ++ strOfNums (Num.dec c)) ++ (⟨#[93]⟩ : ByteArray)] (by omega) (by simp)
  refine ⟨[((((((s ++ (⟨#[32, 91, 105, 61]⟩ : ByteArray)) ++ strOfNums (Num.dec a)) ++ (⟨#[59, 98, 61]⟩ : ByteArray)) ++ strOfNums (hexL d)) ++ (⟨#[59, 109, 61]⟩ : ByteArray)) ++ strOfNums (Num.dec c)) ++ (⟨#[93]⟩ : ByteArray)] ++ (l.drop 0).map lineV, Ev.step (fun k => format_Verbose.j0.eq_2 _ _ _ _ _ _ _) ?_, Ev.step (fun k => logbookref40_Verbose.j0.eq_2 _ _ _ _ _ _ _) ?_, ?_⟩
  · exact Ev.pos (by omega) (Ev.bind (Num.decimal_tells a ha.1 ha.2) (Ev.pos (by omega) (Ev.pos (by omega) (Ev.bindc (hex_f d hd) (Ev.pos (by omega) (Ev.pos (by omega) (Ev.bind (Num.decimal_tells c hc.1 hc.2) (Ev.pos (by omega) (Ev.pos (by omega) g1)))))))))
  · exact Ev.pos (by omega) (Ev.bind (Num.ref_decimal a ha.1 ha.2) (Ev.pos (by omega) (Ev.pos (by omega) (Ev.bind (refhex_tells d hd) (Ev.pos (by omega) (Ev.pos (by omega) (Ev.bind (Num.ref_decimal c hc.1 hc.2) (Ev.pos (by omega) (Ev.pos (by omega) g2)))))))))
  · rw [List.length_append, List.length_map, List.length_drop]
    simp only [List.length_cons, List.length_nil]
    omega
theorem texts_go (l : List ByteArray) (hl : l.length ≤ 1000000) : ∀ (d i : Nat), d + i = l.length → Ev (fun k => logbookref04_Texts.l0 k l l i) true
  | 0, i, hd => Ev.step (fun k => logbookref04_Texts.l0.eq_2 _ _ _ _) (Ev.neg (by omega) (Ev.now _))
  | d + 1, i, hd => by
    refine Ev.step (fun k => logbookref04_Texts.l0.eq_2 _ _ _ _) (Ev.pos (by omega) (Ev.pos (by omega) (Ev.pos (by omega) (Ev.pos rfl ?_))))
    rw [wi (i := i) (n := l.length) (by omega) (by omega)]
    exact texts_go l hl d (i + 1) (by omega)
theorem texts_tells (l : List ByteArray) (hl : l.length ≤ 1000000) : Ev (fun k => logbookref04_Texts.f k l l) true := Ev.pos rfl (texts_go l hl l.length 0 (by omega))
theorem law (a b c d : Int) (ha : U64 a) (hb : U64 b) (hc : U64 c) (hd : U64 d) (l : List ByteArray) : ∃ k, logbooklaw40_FormatVerbose.f k a b c d l = some true := by
  refine Ev.at ?_
  obtain ⟨g, hg⟩ := few_tells l
  refine Ev.bind hg (Ev.both (fun _ => ?_) (fun _ => Ev.bind awake_tells (Ev.now _)))
  obtain ⟨⟨x, e⟩, h1, h2⟩ := refcheck2 l
  refine Ev.bind (Ev.bind h1 (Ev.now (a, b, c, d, x, e))) (Ev.both (fun he => ?_) (fun _ => Ev.bind awake_tells (Ev.now _)))
  obtain ⟨hl, hz⟩ := h2 he
  have z1 := dec_size b
  have hb64 : (⟨#[64]⟩ : ByteArray).size = 1 := rfl
  by_cases ht : (calT b).2.2.2.2.2.2.2 = true
  · have hts : (strOfNums (textL34 b)).size ≤ 1000 := by
      obtain ⟨y0, y1, m0, m1, d0, d1, e0, e1, f0, f1, g0, g1, i0, i1⟩ := calT_in b hb.1 ht
      have q1 := decF_len 20 (calT b).1
      have q2 := decF_len 20 (calT b).2.2.2.2.2.2.1
      rw [size_str]
      unfold textL34
      simp only [List.length_append, List.length_cons, p2, List.length_nil, padL_len]
      unfold Num.dec
      omega
    obtain ⟨V, v1, v2, v3⟩ := head_both (strOfNums (textL34 b)) hts x hl hz a b c d ha hc hd
    refine Ev.bind (Ev.bind (Num.decimal_tells b hb.1 hb.2) (Ev.pos (by omega) (Ev.bindc (civil_tells b hb.1 hb.2) (Ev.pos ht (Ev.bind (ctext_tells b hb.1 hb.2 ht) v1))))) ?_
    refine Ev.bind (Ev.bind (Num.ref_decimal b hb.1 hb.2) (Ev.pos (by omega) (Ev.bind (ref34_tells b hb.1 hb.2) (Ev.pos ht (Ev.bind (text34_tells b hb.1 hb.2 ht) v2))))) ?_
    exact Ev.bind (texts_tells V (by omega)) (Ev.pos rfl (Ev.bind awake_tells (Ev.now _)))
  · obtain ⟨V, v1, v2, v3⟩ := head_both ((⟨#[64]⟩ : ByteArray) ++ strOfNums (Num.dec b)) (by rw [ByteArray.size_append]; omega) x hl hz a b c d ha hc hd
    refine Ev.bind (Ev.bind (Num.decimal_tells b hb.1 hb.2) (Ev.pos (by omega) (Ev.bindc (civil_tells b hb.1 hb.2) (Ev.neg ht v1)))) ?_
    refine Ev.bind (Ev.bind (Num.ref_decimal b hb.1 hb.2) (Ev.pos (by omega) (Ev.bind (ref34_tells b hb.1 hb.2) (Ev.neg ht v2)))) ?_
    exact Ev.bind (texts_tells V (by omega)) (Ev.pos rfl (Ev.bind awake_tells (Ev.now _)))
end FV
end Go.Proofs.Ytbakfpiflcaacaa.Pure
namespace Go.Proofs.Ytbakfpiflcaacaa.PureFormatVerbose
set_option linter.unusedVariables false
open Go.Proofs.Ytbakfpiflcaacaa.PFormatVerbose
theorem FormatVerbose (y0 : Int × Int × Int × Int × List (ByteArray))
    (w0 : ((Lit.int .u64 y0.1).wf = true) ∧ ((Lit.int .u64 y0.2.1).wf = true) ∧ ((Lit.int .u64 y0.2.2.1).wf = true) ∧ ((Lit.int .u64 y0.2.2.2.1).wf = true) ∧ ((y0.2.2.2.2.length ≤ maxLen ∧ y0.2.2.2.2.length * 16 ≤ 140737488351232 ∧ ∀ x ∈ y0.2.2.2.2, x.size ≤ 140737488351232))) :
    ∃ k, logbooklaw40_FormatVerbose.f k y0.1 y0.2.1 y0.2.2.1 y0.2.2.2.1 y0.2.2.2.2 = some true :=
  Pure.FV.law _ _ _ _ (Evs.wf_u64 w0.1) (Evs.wf_u64 w0.2.1) (Evs.wf_u64 w0.2.2.1) (Evs.wf_u64 w0.2.2.2.1) _
end Go.Proofs.Ytbakfpiflcaacaa.PureFormatVerbose
