/- FormatTables: all rows in columns: in plain Lean. -/
import Derived.Test.YtbakfpiflcaacaaPFormatTablesx5
import Derived.Test.YtbakfpiflcaacaaDec
import Derived.Test.YtbakfpiflcaacaaStr
import Derived.Test.YtbakfpiflcaacaaEvs
namespace Go.Proofs.Ytbakfpiflcaacaa.Pure
open Go.RowKit Go.Proofs.Ytbakfpiflcaacaa.PFormatTables Go.Proofs.YtbakfpiflcaacaaW.PrintWords Go.Proofs.YtbakfpiflcaacaaW.PrintLast Go.Proofs.YtbakfpiflcaacaaW.PrintMore Go.Proofs.Ytbakfpiflcaacaa.Evs Go.Proofs.Ytbakfpiflcaacaa.Str Go.Proofs.Ytbakfpiflcaacaa.Conv Go.Proofs.Ytbakfpiflcaacaa.Dec
set_option linter.unusedVariables false
set_option linter.unusedSimpArgs false
namespace FT
namespace Num
theorem w8 {n : Int} (h0 : 0 ≤ n) (h : n < 10) : IntKind.u64.wrap (48 + n) % 256 = 48 + n := by
  rw [wu64 (by omega) (by omega)]
  omega
theorem div10 {n : Int} (h0 : 0 ≤ n) (h1 : n ≤ 18446744073709551615) : IntKind.u64.wrap (Int.tdiv n 10) = n / 10 := by
  rw [Int.tdiv_eq_ediv_of_nonneg h0, wu64 (by omega) (by omega)]
theorem mod10 {n : Int} (h0 : 0 ≤ n) : IntKind.u64.wrap (48 + Int.tmod n 10) % 256 = 48 + n % 10 := by
  rw [Int.tmod_eq_emod_of_nonneg h0]
  exact w8 (by omega) (by omega)
theorem small_div {n m : Int} (h0 : 0 ≤ n) (h1 : n ≤ m) : 0 ≤ n / 10 ∧ n / 10 ≤ m := by omega
theorem dec_tells : ∀ (d : Nat) (n : Int), d ≤ 20 → 0 ≤ n → n ≤ 18446744073709551615 → n < 10 ^ (d + 1) → Ev (fun k => export_Decimal.f k n) (strOfNums (decF (d + 1) n))
  | d, n, hd, h0, h1, hn => by
    refine Ev.step (fun k => export_Decimal.f.eq_2 _ _) ?_
    by_cases h : n < 10
    · refine Ev.pos h ?_
      rw [w8 h0 h, decF_small h]
      exact Ev.now _
    · refine Ev.neg h ?_
      rw [decF_big h, div10 h0 h1, mod10 h0]
      match d, hn with
      | 0, hn =>
        simp at hn
        exact absurd hn h
      | d + 1, hn =>
        have hs := small_div h0 h1
        refine Ev.bind (dec_tells d (n / 10) (by omega) hs.1 hs.2 (pow_lt hn)) (Ev.bindc rfl (Ev.pos ?_ ?_))
        · rw [size_str, size_str]
          have := decF_len (d + 1) (n / 10)
          simp
          omega
        · rw [str_append]
          exact Ev.now _
theorem lt20 {n : Int} (h1 : n ≤ 18446744073709551615) : n < 10 ^ (19 + 1) := by
  have : (10 : Int) ^ (19 + 1) = 100000000000000000000 := by decide
  omega
def dec (n : Int) : List Int := decF 20 n
theorem decimal_tells (n : Int) (h0 : 0 ≤ n) (h1 : n ≤ 18446744073709551615) : Ev (fun k => export_Decimal.f k n) (strOfNums (dec n)) := dec_tells 19 n (by omega) h0 h1 (lt20 h1)
end Num
/-! ### the calendar -/
def lp (y : Int) : Prop := y % 4 = 0 ∧ (y % 100 ≠ 0 ∨ y % 400 = 0)
instance (y : Int) : Decidable (lp y) := by unfold lp; infer_instance
def yd (y : Int) : Int := if lp y then 366 else 365
/-- The days from the first day of 1970 up to a year's first one. -/
def yst (y : Int) : Int := 365 * (y - 1970) + (y - 1) / 4 - (y - 1) / 100 + (y - 1) / 400 - 477
theorem yst_succ (y : Int) : yst (y + 1) = yst y + yd y := by
  unfold yst yd
  by_cases h : lp y
  · rw [if_pos h]
    unfold lp at h
    omega
  · rw [if_neg h]
    unfold lp at h
    omega
theorem yd_pos (y : Int) : 365 ≤ yd y ∧ yd y ≤ 366 := by
  unfold yd
  split <;> omega
def md (l : Bool) (m : Int) : Int := if m = 4 ∨ m = 6 ∨ m = 9 ∨ m = 11 then 30 else if m = 2 then (if l then 29 else 28) else 31
def mst (l : Bool) (m : Int) : Int :=
  if m ≤ 1 then 0 else if m = 2 then 31 else (if l then 1 else 0) + (if m = 3 then 59 else if m = 4 then 90 else if m = 5 then 120 else if m = 6 then 151 else if m = 7 then 181 else if m = 8 then 212 else if m = 9 then 243 else if m = 10 then 273 else if m = 11 then 304 else 334)
theorem mst_succ (l : Bool) (m : Int) (h0 : 1 ≤ m) (h1 : m ≤ 11) : mst l (m + 1) = mst l m + md l m := by
  have : m = 1 ∨ m = 2 ∨ m = 3 ∨ m = 4 ∨ m = 5 ∨ m = 6 ∨ m = 7 ∨ m = 8 ∨ m = 9 ∨ m = 10 ∨ m = 11 := by omega
  rcases this with rfl | rfl | rfl | rfl | rfl | rfl | rfl | rfl | rfl | rfl | rfl <;> cases l <;> rfl
theorem md_pos (l : Bool) (m : Int) : 28 ≤ md l m ∧ md l m ≤ 31 := by
  unfold md
  cases l <;> simp <;> split <;> (try split) <;> omega
def rY (r : Nat) : Nat := (r - r / 1460 + r / 36524 - r / 146096) / 365
def rOk (r : Nat) : Bool :=
  Nat.ble (rY r) 399 && Nat.ble (365 * rY r + rY r / 4 - rY r / 100) r && Nat.ble (r - (365 * rY r + rY r / 4 - rY r / 100)) 365 &&
  (Nat.ble (r - (365 * rY r + rY r / 4 - rY r / 100)) 364 || (Nat.beq ((rY r + 1) % 4) 0 && (Nat.ble 1 ((rY r + 1) % 100) || Nat.beq ((rY r + 1) % 400) 0)))
def allR : Nat → Nat → Bool
  | 0, lo => Nat.ble 146097 lo || rOk lo
  | n + 1, lo => Nat.ble 146097 lo || (allR n lo && allR n (lo + 2 ^ n))
theorem allR_tells : ∀ (n lo : Nat), allR n lo = true → ∀ r, lo ≤ r → r < lo + 2 ^ n → r < 146097 → rOk r = true
  | 0, lo, h, r, h1, h2, h3 => by
    obtain rfl : r = lo := by
      simp at h2
      omega
    simp only [allR, Bool.or_eq_true] at h
    rcases h with h | h
    · have := Nat.le_of_ble_eq_true h
      omega
    · exact h
  | n + 1, lo, h, r, h1, h2, h3 => by
    simp only [allR, Bool.or_eq_true, Bool.and_eq_true] at h
    rcases h with h | ⟨ha, hb⟩
    · have := Nat.le_of_ble_eq_true h
      omega
    · rw [Nat.pow_succ] at h2
      rcases Nat.lt_or_ge r (lo + 2 ^ n) with h4 | h4
      · exact allR_tells n lo ha r h1 h4 h3
      · exact allR_tells n (lo + 2 ^ n) hb r h4 (by omega) h3
theorem allR_all : allR 18 0 = true := by decide +kernel
theorem rOk_all (r : Nat) (h : r < 146097) : rOk r = true := allR_tells 18 0 allR_all r (by omega) (by omega) h
/-- A day of an era: its year, counted from March on. -/
theorem era_day (r : Int) (h0 : 0 ≤ r) (h1 : r < 146097) : ∃ y q : Int, (r - r / 1460 + r / 36524 - r / 146096) / 365 = y ∧ 0 ≤ y ∧ y ≤ 399 ∧ r - (365 * y + y / 4 - y / 100) = q ∧ 0 ≤ q ∧ q ≤ 365 ∧ (q = 365 → lp (y + 1)) := by
  obtain ⟨n, rfl⟩ : ∃ n : Nat, r = n := ⟨r.toNat, by omega⟩
  have h := rOk_all n (by omega)
  unfold rOk at h
  simp only [Bool.and_eq_true, Bool.or_eq_true] at h
  obtain ⟨⟨⟨a, b⟩, c⟩, d⟩ := h
  have a := Nat.le_of_ble_eq_true a
  have b := Nat.le_of_ble_eq_true b
  have c := Nat.le_of_ble_eq_true c
  have e : (((n : Int) - (n : Int) / 1460 + (n : Int) / 36524 - (n : Int) / 146096) / 365) = (rY n : Int) := by
    unfold rY
    omega
  refine ⟨(rY n : Int), ((n - (365 * rY n + rY n / 4 - rY n / 100) : Nat) : Int), e, by omega, by omega, by omega, by omega, by omega, fun hq => ?_⟩
  rcases d with d | ⟨d1, d2⟩
  · have := Nat.le_of_ble_eq_true d
    omega
  · have d1 := Nat.eq_of_beq_eq_true d1
    unfold lp
    rcases d2 with d2 | d2
    · have := Nat.le_of_ble_eq_true d2
      omega
    · have := Nat.eq_of_beq_eq_true d2
      omega
/-- A day of a year that begins with March: its month and its day. -/
theorem march_day (q : Int) (h0 : 0 ≤ q) (h1 : q ≤ 365) : ∃ m d : Int, (5 * q + 2) / 153 = m ∧ 0 ≤ m ∧ m ≤ 11 ∧ q - (153 * m + 2) / 5 + 1 = d ∧ 1 ≤ d ∧ d ≤ 31 ∧
    (m ≤ 9 → mst false (m + 3) + d = 59 + q + 1 ∧ d ≤ md false (m + 3)) ∧ (10 ≤ m → mst false (m - 9) + 306 + d = q + 1 ∧ (m = 10 → d ≤ 31) ∧ (m = 11 → d ≤ 29 ∧ (d = 29 → q = 365))) := by
  obtain ⟨m, hm⟩ : ∃ m, (5 * q + 2) / 153 = m := ⟨_, rfl⟩
  have hb : 0 ≤ m ∧ m ≤ 11 := by omega
  refine ⟨m, _, hm, hb.1, hb.2, rfl, ?_⟩
  have : m = 0 ∨ m = 1 ∨ m = 2 ∨ m = 3 ∨ m = 4 ∨ m = 5 ∨ m = 6 ∨ m = 7 ∨ m = 8 ∨ m = 9 ∨ m = 10 ∨ m = 11 := by omega
  rcases this with rfl | rfl | rfl | rfl | rfl | rfl | rfl | rfl | rfl | rfl | rfl | rfl <;>
  · refine ⟨by omega, by omega, fun h => ?_, fun h => ?_⟩ <;> first
    | (exfalso; omega)
    | (simp only [mst, md]; simp; omega)
/-- What the formula tells of a day. -/
structure Day where (y m d : Int)
def civ (n : Int) : Day :=
  let e := (n + 719468) / 146097
  let r := (n + 719468) % 146097
  let y := (r - r / 1460 + r / 36524 - r / 146096) / 365
  let q := r - (365 * y + y / 4 - y / 100)
  let m := (5 * q + 2) / 153
  if m + 3 > 12 then ⟨400 * e + y + 1, m + 3 - 12, q - (153 * m + 2) / 5 + 1⟩ else ⟨400 * e + y, m + 3, q - (153 * m + 2) / 5 + 1⟩
theorem civ_tells (n : Int) (h : 0 ≤ n) : 1970 ≤ (civ n).y ∧ 1 ≤ (civ n).m ∧ (civ n).m ≤ 12 ∧ 1 ≤ (civ n).d ∧ (civ n).d ≤ md (decide (lp (civ n).y)) (civ n).m ∧ yst (civ n).y + mst (decide (lp (civ n).y)) (civ n).m + (civ n).d - 1 = n := by
  obtain ⟨y, q, e1, y0, y1, e2, q0, q1, hl⟩ := era_day ((n + 719468) % 146097) (by omega) (by omega)
  obtain ⟨m, d, e3, m0, m1, e4, d0, d1, hA, hB⟩ := march_day q q0 q1
  obtain ⟨e, he⟩ : ∃ e, (n + 719468) / 146097 = e := ⟨_, rfl⟩
  have hn : n + 719468 = 146097 * e + (365 * y + y / 4 - y / 100) + q := by omega
  have he0 : 4 ≤ e := by omega
  have hc : civ n = if m + 3 > 12 then ⟨400 * e + y + 1, m + 3 - 12, d⟩ else ⟨400 * e + y, m + 3, d⟩ := by
    unfold civ
    simp only [e1, e2, e3, e4, he]
  rw [hc]
  have hY : yst (400 * e + y + 1) = 146097 * e + (365 * y + y / 4 - y / 100) - 719162 := by
    unfold yst
    rw [show (400 * e + y + 1 - 1) / 4 = 100 * e + y / 4 by omega, show (400 * e + y + 1 - 1) / 100 = 4 * e + y / 100 by omega, show (400 * e + y + 1 - 1) / 400 = e by omega]
    omega
  by_cases hm : m + 3 > 12
  · rw [if_pos hm]
    obtain ⟨b1, b2, b3⟩ := hB (by omega)
    have hlp : lp (y + 1) → lp (400 * e + y + 1) := by
      unfold lp
      omega
    have h2 : m = 10 ∨ m = 11 := by omega
    have hy := hY
    show 1970 ≤ 400 * e + y + 1 ∧ 1 ≤ m + 3 - 12 ∧ m + 3 - 12 ≤ 12 ∧ 1 ≤ d ∧ d ≤ md (decide (lp (400 * e + y + 1))) (m + 3 - 12) ∧ yst (400 * e + y + 1) + mst (decide (lp (400 * e + y + 1))) (m + 3 - 12) + d - 1 = n
    rw [hy]
    rcases h2 with rfl | rfl
    · have e5 : ∀ l, mst l (10 + 3 - 12) = 0 := fun l => rfl
      have e6 : ∀ l, md l (10 + 3 - 12) = 31 := fun l => rfl
      have e7 : mst false (10 - 9) = 0 := rfl
      rw [e5, e6]
      rw [e7] at b1
      have := b2 rfl
      omega
    · have e5 : ∀ l, mst l (11 + 3 - 12) = 31 := fun l => rfl
      have e7 : mst false (11 - 9) = 31 := rfl
      have e8 : md true (11 + 3 - 12) = 29 := rfl
      have e9 : md false (11 + 3 - 12) = 28 := rfl
      rw [e5]
      rw [e7] at b1
      obtain ⟨c1, c2⟩ := b3 rfl
      have h5 : d ≤ md (decide (lp (400 * e + y + 1))) (11 + 3 - 12) := by
        by_cases hd : d = 29
        · rw [decide_eq_true (hlp (hl (c2 hd))), e8]
          omega
        · cases decide (lp (400 * e + y + 1))
          · rw [e9]
            omega
          · rw [e8]
            omega
      refine ⟨by omega, by omega, by omega, d0, h5, by omega⟩
  · rw [if_neg hm]
    obtain ⟨a1, a2⟩ := hA (by omega)
    show 1970 ≤ 400 * e + y ∧ 1 ≤ m + 3 ∧ m + 3 ≤ 12 ∧ 1 ≤ d ∧ d ≤ md (decide (lp (400 * e + y))) (m + 3) ∧ yst (400 * e + y) + mst (decide (lp (400 * e + y))) (m + 3) + d - 1 = n
    have hmd : ∀ l, md l (m + 3) = md false (m + 3) := fun l => by
      unfold md
      rw [if_neg (c := m + 3 = 2) (by omega), if_neg (c := m + 3 = 2) (by omega)]
    have hms : ∀ l, mst l (m + 3) = (if l then 1 else 0) + mst false (m + 3) := fun l => by
      unfold mst
      rw [if_neg (c := m + 3 ≤ 1) (by omega), if_neg (c := m + 3 = 2) (by omega), if_neg (c := m + 3 ≤ 1) (by omega), if_neg (c := m + 3 = 2) (by omega)]
      simp
    have hy : yst (400 * e + y) + (if decide (lp (400 * e + y)) = true then 1 else 0) = 146097 * e + (365 * y + y / 4 - y / 100) - 719468 + 306 - 365 := by
      have h1 := yst_succ (400 * e + y)
      rw [hY] at h1
      unfold yd at h1
      by_cases h : lp (400 * e + y)
      · rw [if_pos h] at h1
        rw [if_pos (decide_eq_true h)]
        omega
      · rw [if_neg h] at h1
        rw [if_neg (by rw [decide_eq_false h]; exact Bool.false_ne_true)]
        omega
    rw [hmd, hms]
    refine ⟨by omega, by omega, by omega, d0, a2, by omega⟩
/-! ### the reference's ways -/
theorem yst_mono : ∀ (k : Nat) (y : Int), yst y ≤ yst (y + k)
  | 0, y => by
    rw [show y + ((0 : Nat) : Int) = y by omega]
    exact Int.le_refl _
  | k + 1, y => by
    have h := yst_mono k y
    have h2 := yst_succ (y + k)
    have h3 := yd_pos (y + k)
    rw [show y + ((k + 1 : Nat) : Int) = y + k + 1 by omega]
    omega
theorem yst_le {a b : Int} (h : a ≤ b) : yst a ≤ yst b := by
  have := yst_mono (b - a).toNat a
  rw [show a + (((b - a).toNat : Nat) : Int) = b by omega] at this
  exact this
theorem mst_le (l : Bool) (a b : Int) (h0 : 1 ≤ a) (h : a ≤ b) (h1 : b ≤ 12) : mst l a ≤ mst l b := by
  obtain ⟨k, rfl⟩ : ∃ k : Nat, b = a + k := ⟨(b - a).toNat, by omega⟩
  induction k with
  | zero =>
    rw [show a + ((0 : Nat) : Int) = a by omega]
    exact Int.le_refl _
  | succ k ih =>
    have h2 := mst_succ l (a + k) (by omega) (by omega)
    have h3 := md_pos l (a + k)
    have h4 := ih (by omega) (by omega)
    rw [show a + ((k + 1 : Nat) : Int) = a + k + 1 by omega]
    omega
theorem mst_end (l : Bool) : mst l 12 + md l 12 = (if l then 366 else 365) := by
  cases l <;> rfl
theorem civ_year (n : Int) (h : 0 ≤ n) : yst (civ n).y ≤ n ∧ n < yst ((civ n).y + 1) := by
  obtain ⟨c1, c2, c3, c4, c5, c6⟩ := civ_tells n h
  have h1 := mst_le (decide (lp (civ n).y)) 1 (civ n).m (by omega) c2 c3
  have e1 : ∀ l, mst l 1 = 0 := fun l => rfl
  rw [e1] at h1
  rw [yst_succ]
  have h3 : mst (decide (lp (civ n).y)) (civ n).m + md (decide (lp (civ n).y)) (civ n).m ≤ yd (civ n).y := by
    have h4 := mst_end (decide (lp (civ n).y))
    have e2 : yd (civ n).y = (if decide (lp (civ n).y) = true then 366 else 365) := by
      unfold yd
      simp only [decide_eq_true_eq]
    rw [e2, ← h4]
    by_cases hm : (civ n).m = 12
    · rw [hm]
      exact Int.le_refl _
    · rw [← mst_succ _ _ c2 (by omega)]
      have h5 := mst_le (decide (lp (civ n).y)) ((civ n).m + 1) 12 (by omega) (by omega) (by omega)
      have h6 := md_pos (decide (lp (civ n).y)) 12
      omega
  omega
/-! ### the calendar of the program, and of the reference -/
def T8 := Int × Int × Int × Int × Int × Int × Int × Bool
def calT (a : Int) : Int × Int × Int × Int × Int × Int × Int × Bool :=
  if (civ (a / 86400000000)).y > 9999 then (0, 0, 0, 0, 0, 0, 0, false) else
  ((civ (a / 86400000000)).y, (civ (a / 86400000000)).m, (civ (a / 86400000000)).d, a % 86400000000 / 3600000000, a % 86400000000 / 60000000 % 60, a % 86400000000 / 1000000 % 60, a % 86400000000 % 1000000, true)
theorem civ_late {n : Int} (h : n > 3000000) : (civ n).y > 9999 := by
  obtain ⟨h1, h2⟩ := civ_year n (by omega)
  by_cases h3 : (civ n).y > 9999
  · exact h3
  · have := yst_le (a := (civ n).y + 1) (b := 10000) (by omega)
    have e : yst 10000 = 2932897 := by decide
    omega
theorem civV_eq (a : Int) (h0 : 0 ≤ a) : civV a = calT a := by
  unfold civV calT
  by_cases hc : a / 86400000000 > 3000000
  · rw [if_pos hc, if_pos (civ_late hc)]
  rw [if_neg hc]
  obtain ⟨n, hn⟩ : ∃ n, a / 86400000000 = n := ⟨_, rfl⟩
  have hn0 : 0 ≤ n := by omega
  rw [hn]
  obtain ⟨y, q, e1, y0, y1, e2, q0, q1, _⟩ := era_day ((n + 719468) % 146097) (by omega) (by omega)
  have ey : civY ((n + 719468) % 146097) = y := e1
  unfold civW civX civZ civT civ
  simp only [ey, e1, e2]
  rw [Int.tdiv_eq_ediv_of_nonneg (show 0 ≤ 5 * q + 2 by omega), Int.tdiv_eq_ediv_of_nonneg (show 0 ≤ 153 * ((5 * q + 2) / 153) + 2 by omega)]
  by_cases hm : (5 * q + 2) / 153 + 3 > 12
  · rw [if_pos hm, if_pos hm]
  · rw [if_neg hm, if_neg hm]
theorem civil_tells (a : Int) (h0 : 0 ≤ a) (h1 : a ≤ 18446744073709551615) : civil_Of.f a = some (calT a) := by
  unfold civil_Of.f
  rw [if_pos ⟨h0, h1⟩, civV_eq a h0]
theorem month_cases {m : Int} (h0 : 1 ≤ m) (h1 : m ≤ 12) : m = 1 ∨ m = 2 ∨ m = 3 ∨ m = 4 ∨ m = 5 ∨ m = 6 ∨ m = 7 ∨ m = 8 ∨ m = 9 ∨ m = 10 ∨ m = 11 ∨ m = 12 := by omega
theorem calT_in (a : Int) (h0 : 0 ≤ a) (h : (calT a).2.2.2.2.2.2.2 = true) : 1970 ≤ (calT a).1 ∧ (calT a).1 ≤ 9999 ∧ 1 ≤ (calT a).2.1 ∧ (calT a).2.1 ≤ 12 ∧ 1 ≤ (calT a).2.2.1 ∧ (calT a).2.2.1 ≤ 31 ∧
    0 ≤ (calT a).2.2.2.1 ∧ (calT a).2.2.2.1 ≤ 23 ∧ 0 ≤ (calT a).2.2.2.2.1 ∧ (calT a).2.2.2.2.1 ≤ 59 ∧ 0 ≤ (calT a).2.2.2.2.2.1 ∧ (calT a).2.2.2.2.2.1 ≤ 59 ∧ 0 ≤ (calT a).2.2.2.2.2.2.1 ∧ (calT a).2.2.2.2.2.2.1 ≤ 999999 := by
  obtain ⟨c1, c2, c3, c4, c5, c6⟩ := civ_tells (a / 86400000000) (by omega)
  have hml := md_pos (decide (lp (civ (a / 86400000000)).y)) (civ (a / 86400000000)).m
  unfold calT at h ⊢
  by_cases hy : (civ (a / 86400000000)).y > 9999
  · rw [if_pos hy] at h
    cases h
  · rw [if_neg hy]
    refine ⟨c1, ?_, c2, c3, c4, ?_, ?_, ?_, ?_, ?_, ?_, ?_, ?_, ?_⟩ <;> simp only <;> omega
/-! ### numbers with a fill ahead -/
def padL (c : Int) (w : Nat) (l : List Int) : List Int := List.replicate (w - l.length) c ++ l
theorem padL_step (c : Int) (w : Nat) (l : List Int) (h : l.length < w) : padL c w l = padL c w (c :: l) := by
  unfold padL
  rw [show w - l.length = (w - (c :: l).length) + 1 by rw [List.length_cons]; omega, List.replicate_succ', List.append_assoc]
  rfl
theorem padL_done (c : Int) (w : Nat) (l : List Int) (h : w ≤ l.length) : padL c w l = l := by
  unfold padL
  rw [show w - l.length = 0 by omega]
  rfl
theorem padL_len (c : Int) (w : Nat) (l : List Int) : (padL c w l).length = max w l.length := by
  unfold padL
  rw [List.length_append, List.length_replicate]
  omega
theorem lit1_cons (c : UInt8) (l : List Int) : (⟨#[c]⟩ : ByteArray) ++ strOfNums l = strOfNums ((c.toNat : Int) :: l) := by
  have e : (⟨#[c]⟩ : ByteArray) = strOfNums [(c.toNat : Int)] := by
    show ByteArray.mk #[c] = ByteArray.mk #[UInt8.ofNat ((c.toNat : Int)).toNat]
    rw [ofNat_nat]
  rw [e, str_append]
  rfl
theorem pad_go (c : UInt8) (w : Nat) (hw : w ≤ 1000) : ∀ (d : Nat) (l : List Int), w - l.length = d → l.length ≤ 1000 → Ev (fun k => format_pad.l0 k (w : Int) (⟨#[c]⟩ : ByteArray) (strOfNums l)) (strOfNums (padL (c.toNat : Int) w l))
  | 0, l, hd, hl => by
    rw [padL_done _ _ _ (by omega)]
    exact Ev.step (fun k => format_pad.l0.eq_2 _ _ _ _) (Ev.neg (by rw [size_str]; omega) (Ev.now _))
  | d + 1, l, hd, hl => by
    have ih := pad_go c w hw d ((c.toNat : Int) :: l) (by rw [List.length_cons]; omega) (by rw [List.length_cons]; omega)
    rw [padL_step _ _ _ (by omega)]
    refine Ev.step (fun k => format_pad.l0.eq_2 _ _ _ _) (Ev.pos (by rw [size_str]; omega) (Ev.pos ?_ ?_))
    · rw [size_str]
      show 1 + l.length ≤ _
      omega
    · rw [lit1_cons]
      exact ih
theorem pad_tells (n : Int) (h0 : 0 ≤ n) (h1 : n ≤ 18446744073709551615) (w : Nat) (hw : w ≤ 1000) (c : UInt8) : Ev (fun k => format_pad.f k n (w : Int) (⟨#[c]⟩ : ByteArray)) (strOfNums (padL (c.toNat : Int) w (Num.dec n))) :=
  Ev.bind (Num.decimal_tells n h0 h1) (pad_go c w hw _ _ rfl (Nat.le_trans (decF_len 20 n) (by decide)))
def p2 (n : Int) : List Int := [48 + n / 10, 48 + n % 10]
theorem padL_two (n : Int) (h0 : 0 ≤ n) (h1 : n ≤ 99) : padL 48 2 (Num.dec n) = p2 n := by
  unfold Num.dec p2
  by_cases h : n < 10
  · rw [decF_small h, show n / 10 = 0 by omega, show n % 10 = n by omega]
    rfl
  · rw [decF_big h, decF_small (by omega)]
    rfl
theorem dec_len4 (n : Int) (h0 : 1000 ≤ n) (h1 : n ≤ 9999) : (Num.dec n).length = 4 := by
  unfold Num.dec
  rw [decF_big (by omega), decF_big (by omega), decF_big (by omega), decF_small (by omega)]
  rfl
def monS (m : Int) : ByteArray := rdOf ByteArray.empty ([(⟨#[74, 97, 110]⟩ : ByteArray), (⟨#[70, 101, 98]⟩ : ByteArray), (⟨#[77, 97, 114]⟩ : ByteArray), (⟨#[65, 112, 114]⟩ : ByteArray), (⟨#[77, 97, 121]⟩ : ByteArray), (⟨#[74, 117, 110]⟩ : ByteArray), (⟨#[74, 117, 108]⟩ : ByteArray), (⟨#[65, 117, 103]⟩ : ByteArray), (⟨#[83, 101, 112]⟩ : ByteArray), (⟨#[79, 99, 116]⟩ : ByteArray), (⟨#[78, 111, 118]⟩ : ByteArray), (⟨#[68, 101, 99]⟩ : ByteArray)] : List ByteArray) (m - 1)
def monL (m : Int) : List Int := bytesOf (monS m)
theorem mon_str (m : Int) : monS m = strOfNums (monL m) := (str_bytes _).symm
theorem monL_len (m : Int) (h0 : 1 ≤ m) (h1 : m ≤ 12) : (monL m).length = 3 := by
  rcases month_cases h0 h1 with rfl | rfl | rfl | rfl | rfl | rfl | rfl | rfl | rfl | rfl | rfl | rfl <;> rfl
theorem month_tells (m : Int) (h0 : 1 ≤ m) (h1 : m ≤ 12) : format_month.f m = some (monS m) := by
  rcases month_cases h0 h1 with rfl | rfl | rfl | rfl | rfl | rfl | rfl | rfl | rfl | rfl | rfl | rfl <;> decide +kernel
def clockL (a : Int) : List Int :=
  if (calT a).2.2.2.2.2.2.2 = true then monL (calT a).2.1 ++ 32 :: (p2 (calT a).2.2.1 ++ 32 :: (p2 (calT a).2.2.2.1 ++ 58 :: (p2 (calT a).2.2.2.2.1 ++ 58 :: p2 (calT a).2.2.2.2.2.1)))
  else 64 :: Num.dec a
theorem clockL_len (a : Int) (h0 : 0 ≤ a) : (clockL a).length ≤ 21 := by
  unfold clockL
  by_cases h : (calT a).2.2.2.2.2.2.2 = true
  · obtain ⟨_, _, m0, m1, _⟩ := calT_in a h0 h
    have := monL_len _ m0 m1
    rw [if_pos h]
    simp only [List.length_append, List.length_cons, p2, List.length_nil]
    omega
  · rw [if_neg h]
    have := decF_len 20 a
    rw [List.length_cons]
    unfold Num.dec
    omega
theorem lit_32 : (⟨#[32]⟩ : ByteArray) = strOfNums [32] := rfl
theorem lit_58 : (⟨#[58]⟩ : ByteArray) = strOfNums [58] := rfl
theorem lit_45 : (⟨#[45]⟩ : ByteArray) = strOfNums [45] := rfl
theorem lit_46 : (⟨#[46]⟩ : ByteArray) = strOfNums [46] := rfl
theorem lit_64 : (⟨#[64]⟩ : ByteArray) = strOfNums [64] := rfl
theorem clock_tells (a : Int) (h0 : 0 ≤ a) (h1 : a ≤ 18446744073709551615) : Ev (fun k => format_Clock.f k a) (strOfNums (clockL a)) := by
  refine Ev.bindc (civil_tells a h0 h1) ?_
  unfold clockL
  by_cases h : (calT a).2.2.2.2.2.2.2 = true
  · obtain ⟨_, _, m0, m1, d0, d1, e0, e1, f0, f1, g0, g1, _⟩ := calT_in a h0 h
    have hml := monL_len _ m0 m1
    have q : ∀ n : Int, 0 ≤ n → n ≤ 99 → Ev (fun k => format_pad.f k (IntKind.u64.wrap n) 2 (⟨#[48]⟩ : ByteArray)) (strOfNums (p2 n)) := fun n n0 n1 => by
      have := pad_tells n n0 (by omega) 2 (by decide) 48
      rw [wu64 n0 (by omega), ← padL_two n n0 n1]
      exact this
    have z2 : ∀ n, (strOfNums (p2 n)).size = 2 := fun n => by rw [size_str]; rfl
    rw [if_pos h]
    refine Ev.pos h (Ev.bindc (month_tells _ m0 m1) ?_)
    rw [mon_str]
    have z3 : (strOfNums (monL (calT a).2.1)).size = 3 := by rw [size_str]; exact hml
    refine Ev.pos (by omega) (Ev.bind (q _ (by omega) (by omega)) (Ev.pos (by rw [z2]; omega) (Ev.pos (by rw [z2]; omega) (Ev.bind (q _ (by omega) (by omega)) (Ev.pos (by rw [z2, z2]; omega) (Ev.pos (by rw [z2, z2]; omega) (Ev.bind (q _ (by omega) (by omega)) (Ev.pos (by rw [z2, z2, z2]; omega) (Ev.pos (by rw [z2, z2, z2]; omega) (Ev.bind (q _ (by omega) (by omega)) (Ev.pos (by rw [z2, z2, z2, z2]; omega) (Ev.eq (Ev.now _) ?_))))))))))))
    rw [lit_32, lit_58]
    simp only [str_append]
    congr 1
    simp only [List.append_assoc]
    rfl
  · rw [if_neg h]
    have hz := decF_len 20 a
    refine Ev.neg h (Ev.bind (Num.decimal_tells a h0 h1) (Ev.pos ?_ (Ev.eq (Ev.now _) ?_)))
    · rw [size_str]
      unfold Num.dec
      omega
    · rw [lit_64, str_append]
      rfl
theorem awake_tells : Ev (fun k => logbooklaw40_awake.f k) true := by
  refine Ev.bind (clock_tells 0 (by decide) (by decide)) (Ev.eq (Ev.now _) ?_)
  decide +kernel
/-! ### rows in columns -/
theorem wt {i n : Nat} (h : i ≤ n) (hn : n ≤ 1000000) : wrap64 ((i : Int) + 1) = ((i + 1 : Nat) : Int) := by
  rw [w64 (by omega) (by omega)]
  omega
def cell (r : List ByteArray) (j : Nat) : Nat := (r.getD j ByteArray.empty).size
def colW : List (List ByteArray) → Nat → Nat
  | [], _ => 0
  | r :: rs, j => max (cell r j) (colW rs j)
def OKr (r : List ByteArray) : Prop := r.length ≤ 12 ∧ ∀ x ∈ r, x.size ≤ 200
theorem cell_at {r : List ByteArray} {j : Nat} (h : j < r.length) : cell r j = r[j].size := by
  unfold cell
  rw [List.getD_eq_getElem?_getD, List.getElem?_eq_getElem h]
  rfl
theorem cell_out {r : List ByteArray} {j : Nat} (h : r.length ≤ j) : cell r j = 0 := by
  unfold cell
  rw [List.getD_eq_getElem?_getD, List.getElem?_eq_none h]
  rfl
theorem cell_le {r : List ByteArray} (h : OKr r) (j : Nat) : cell r j ≤ 200 := by
  rcases Nat.lt_or_ge j r.length with h1 | h1
  · rw [cell_at h1]
    exact h.2 _ (List.getElem_mem h1)
  · rw [cell_out h1]
    omega
theorem colW_le : ∀ (l : List (List ByteArray)), (∀ r ∈ l, OKr r) → ∀ j, colW l j ≤ 200
  | [], _, j => Nat.zero_le _
  | r :: rs, h, j => by
    have h1 := cell_le (h r (by simp)) j
    have h2 := colW_le rs (fun x hx => h x (List.mem_cons_of_mem _ hx)) j
    rw [colW]
    omega
theorem colW_cell : ∀ (l : List (List ByteArray)) (r : List ByteArray), r ∈ l → ∀ j, cell r j ≤ colW l j
  | x :: l, r, h, j => by
    rw [colW]
    rcases List.mem_cons.1 h with rfl | h
    · omega
    · have := colW_cell l r h j
      omega
theorem colW_snoc : ∀ (l : List (List ByteArray)) (r : List ByteArray) (j : Nat), colW (l ++ [r]) j = max (colW l j) (cell r j)
  | [], r, j => by
    show max (cell r j) 0 = max 0 (cell r j)
    omega
  | x :: l, r, j => by
    have := colW_snoc l r j
    show max (cell x j) (colW (l ++ [r]) j) = max (max (cell x j) (colW l j)) (cell r j)
    omega
theorem rdL (l : List (List ByteArray)) (i : Nat) (h : i < l.length) : rd_L6 l (i : Int) = l[i] := by
  unfold rd_L6
  rw [Int.toNat_natCast, List.getD_eq_getElem?_getD, List.getElem?_eq_getElem h]
  rfl
theorem rdB (l : List ByteArray) (i : Nat) (h : i < l.length) : rdOf ByteArray.empty l (i : Int) = l[i] := by
  unfold rdOf
  rw [Int.toNat_natCast, List.getD_eq_getElem?_getD, List.getElem?_eq_getElem h]
  rfl
theorem rdI (l : List Int) (i : Nat) : rd l (i : Int) = l.getD i 0 := by
  unfold rd
  rw [Int.toNat_natCast]
theorem set_getD (l : List Int) (j k : Nat) (v : Int) (h : j < l.length) : (l.set j v).getD k 0 = if k = j then v else l.getD k 0 := by
  rw [List.getD_eq_getElem?_getD, List.getElem?_set]
  by_cases e : j = k
  · subst e
    simp [h]
  · rw [if_neg e, if_neg (fun h => e h.symm), List.getD_eq_getElem?_getD]
theorem app0_getD (l : List Int) (k : Nat) : (l ++ [0]).getD k 0 = l.getD k 0 := by
  rw [List.getD_eq_getElem?_getD, List.getD_eq_getElem?_getD]
  rcases Nat.lt_or_ge k l.length with h | h
  · rw [List.getElem?_append_left h]
  · rw [List.getElem?_append_right h, List.getElem?_eq_none h]
    rcases Nat.eq_zero_or_pos (k - l.length) with e | e
    · rw [e]
      rfl
    · rw [List.getElem?_eq_none (by simp; omega)]
theorem getD_out (l : List Int) (k : Nat) (h : l.length ≤ k) : l.getD k 0 = 0 := by
  rw [List.getD_eq_getElem?_getD, List.getElem?_eq_none h]
  rfl
theorem mx_nat (a b : Nat) : mx (a : Int) (b : Int) = ((max a b : Nat) : Int) := by
  unfold mx
  omega
/-- One row: the widths are no less than its texts. -/
theorem wide_in (rows : List (List ByteArray)) (i : Nat) (hi : i < rows.length) (f0 : Nat → Nat) (M : Nat) (hM : M ≤ 12) (hr : OKr rows[i]) (R : List ByteArray)
    (go : ∀ ws : List Int, ws.length = max M rows[i].length → (∀ k : Nat, ws.getD k 0 = ((max (f0 k) (cell rows[i] k) : Nat) : Int)) → Ev (fun k => format_Table.l0 k rows ws rows (rows.length : Int) (wrap64 ((i : Int) + 1))) R) :
    ∀ (d j : Nat) (ws : List Int), d + j = rows[i].length → ws.length = max M j → (∀ k : Nat, ws.getD k 0 = ((if k < j then max (f0 k) (cell rows[i] k) else f0 k : Nat) : Int)) →
      Ev (fun k => format_Table.l1 k rows ws rows (rows.length : Int) (i : Int) rows[i] (rows[i].length : Int) (j : Int)) R
  | 0, j, ws, hd, hl, hw => by
    refine Ev.step (fun k => format_Table.l1.eq_2 _ _ _ _ _ _ _ _ _) (Ev.neg (by omega) (go ws (by omega) (fun k => ?_)))
    rw [hw k]
    by_cases e : k < j
    · rw [if_pos e]
    · rw [if_neg e, cell_out (by omega)]
      omega
  | d + 1, j, ws, hd, hl, hw => by
    have hj : j < rows[i].length := by omega
    have hjj := hw j
    rw [if_neg (by omega)] at hjj
    have hc := cell_at hj
    have fin : ∀ ys : List Int, ys.length = max M (j + 1) → (∀ k : Nat, ys.getD k 0 = ws.getD k 0) → ys.set j ((max (f0 j) (cell rows[i] j) : Nat) : Int) = ys.set j ((max (f0 j) (cell rows[i] j) : Nat) : Int) ∧ Ev (fun k => format_Table.l1 k rows (ys.set j ((max (f0 j) (cell rows[i] j) : Nat) : Int)) rows (rows.length : Int) (i : Int) rows[i] (rows[i].length : Int) ((j + 1 : Nat) : Int)) R := fun ys hy hyw => ⟨rfl, by
      refine wide_in rows i hi f0 M hM hr R go d (j + 1) _ (by omega) (by rw [List.length_set]; exact hy) (fun k => ?_)
      rw [set_getD ys j k _ (by omega), hyw k, hw k]
      by_cases e : k = j
      · subst e
        rw [if_pos rfl, if_pos (by omega)]
      · rw [if_neg e]
        by_cases e2 : k < j
        · rw [if_pos e2, if_pos (by omega)]
        · rw [if_neg e2, if_neg (by omega)]⟩
    refine Ev.step (fun k => format_Table.l1.eq_2 _ _ _ _ _ _ _ _ _) (Ev.pos (by omega) (Ev.pos (by omega) (Ev.pos (by omega) ?_)))
    rw [rdB _ j hj, Int.toNat_natCast, wt (i := j) (n := rows[i].length) (by omega) (by have := hr.1; omega), ← hc]
    have hlen := hr.1
    by_cases e : (j : Int) = (ws.length : Int)
    · refine Ev.pos e (Ev.pos (by omega) (Ev.bindc rfl (Ev.pos (by rw [List.length_append]; simp; omega) ?_)))
      rw [rdI, app0_getD, hjj, mx_nat]
      exact (fin (ws ++ [0]) (by rw [List.length_append]; simp; omega) (fun k => app0_getD ws k)).2
    · refine Ev.neg e (Ev.pos (by omega) ?_)
      rw [rdI, hjj, mx_nat]
      exact (fin ws (by omega) (fun k => rfl)).2
theorem wide_go (rows : List (List ByteArray)) (hn : rows.length ≤ 20) (hr : ∀ r ∈ rows, OKr r) (R : List ByteArray)
    (go : ∀ ws : List Int, (∀ r ∈ rows, r.length ≤ ws.length) → (∀ k : Nat, ws.getD k 0 = (colW rows k : Int)) → Ev (fun k => format_Table.l2 k ws ([] : List ByteArray) rows (rows.length : Int) 0) R) :
    ∀ (d i : Nat) (ws : List Int), d + i = rows.length → ws.length ≤ 12 → (∀ r ∈ rows.take i, r.length ≤ ws.length) → (∀ k : Nat, ws.getD k 0 = (colW (rows.take i) k : Int)) →
      Ev (fun k => format_Table.l0 k rows ws rows (rows.length : Int) (i : Int)) R
  | 0, i, ws, hd, hl, h1, h2 => by
    rw [List.take_of_length_le (by omega)] at h1 h2
    exact Ev.step (fun k => format_Table.l0.eq_2 _ _ _ _ _ _) (Ev.neg (by omega) (go ws h1 h2))
  | d + 1, i, ws, hd, hl, h1, h2 => by
    have hi : i < rows.length := by omega
    have ho := hr _ (List.getElem_mem hi)
    refine Ev.step (fun k => format_Table.l0.eq_2 _ _ _ _ _ _) (Ev.pos (by omega) (Ev.pos (by omega) (Ev.pos (by omega) ?_)))
    rw [rdL rows i hi]
    refine wide_in rows i hi (colW (rows.take i)) ws.length hl ho R (fun ws2 hl2 hw2 => ?_) rows[i].length 0 ws (by omega) (by omega) (fun k => by rw [if_neg (by omega)]; exact h2 k)
    rw [wt (i := i) (n := rows.length) (by omega) (by omega)]
    have hlen := ho.1
    have hts : rows.take (i + 1) = rows.take i ++ [rows[i]] := List.take_succ_eq_append_getElem hi
    refine wide_go rows hn hr R go d (i + 1) ws2 (by omega) (by omega) (fun r hr2 => ?_) (fun k => ?_)
    · rw [hts] at hr2
      rcases List.mem_append.1 hr2 with h | h
      · have := h1 r h
        omega
      · rw [List.mem_singleton.1 h]
        omega
    · rw [hw2 k, hts, colW_snoc]
def spc (n : Nat) : ByteArray := strOfNums (List.replicate n 32)
theorem spc_size (n : Nat) : (spc n).size = n := by
  unfold spc
  rw [size_str, List.length_replicate]
theorem spc_succ (a : ByteArray) (n : Nat) : (a ++ (⟨#[32]⟩ : ByteArray)) ++ spc n = a ++ spc (n + 1) := by
  apply bytesOf_inj
  unfold spc
  have e : (⟨#[32]⟩ : ByteArray) = strOfNums [32] := rfl
  rw [e, bytesOf_append, bytesOf_append, bytesOf_append, List.replicate_succ, show (32 : Int) :: List.replicate n 32 = [32] ++ List.replicate n 32 from rfl, ← str_append, bytesOf_append, List.append_assoc]
theorem spc_zero (a : ByteArray) : a ++ spc 0 = a := by
  apply bytesOf_inj
  rw [bytesOf_append]
  show bytesOf a ++ [] = bytesOf a
  rw [List.append_nil]
theorem rep_spc (c : Nat) : (⟨(Lib.repeatL (⟨#[32]⟩ : ByteArray).data.toList c).toArray⟩ : ByteArray) = spc c := by
  have h := Lib.repeatL_replicate (32 : UInt8) 1 c
  rw [Nat.mul_one] at h
  have e : (⟨#[32]⟩ : ByteArray).data.toList = List.replicate 1 (32 : UInt8) := rfl
  rw [e, h]
  unfold spc
  show _ = ByteArray.mk (((List.replicate c (32 : Int)).map fun n => UInt8.ofNat n.toNat).toArray)
  rw [List.map_replicate]
  rfl
def linF (W : Nat → Nat) (n : Nat) : Nat → List ByteArray → ByteArray → ByteArray
  | _, [], a => a
  | j, x :: r, a => linF W n (j + 1) r (if j + 1 < n then (a ++ x) ++ spc (W j - x.size + 2) else a ++ x)
/-- One row, as the program writes it. -/
theorem row_go (rows : List (List ByteArray)) (i : Nat) (r : List ByteArray) (ws : List Int) (out : List ByteArray) (ho : OKr r) (hout : out.length ≤ 1000) (W : Nat → Nat) (hW : ∀ k : Nat, ws.getD k 0 = (W k : Int)) (hlen : r.length ≤ ws.length) (hWr : ∀ k, cell r k ≤ W k) (hW2 : ∀ k, W k ≤ 200) (R : List ByteArray) (L : ByteArray)
    (go : Ev (fun k => format_Table.l2 k ws (out ++ [L]) rows (rows.length : Int) (wrap64 ((i : Int) + 1))) R) :
    ∀ (d j : Nat) (a : ByteArray), d + j = r.length → a.size ≤ 402 * j → linF W r.length j (r.drop j) a = L →
      Ev (fun k => format_Table.l3 k ws out r a rows (rows.length : Int) (i : Int) r (r.length : Int) (j : Int)) R
  | 0, j, a, hd, ha, hL => by
    rw [List.drop_of_length_le (by omega)] at hL
    have hL : a = L := hL
    subst hL
    exact Ev.step (fun k => format_Table.l3.eq_2 _ _ _ _ _ _ _ _ _ _ _) (Ev.neg (by omega) (Ev.pos (by omega) go))
  | d + 1, j, a, hd, ha, hL => by
    have hj : j < r.length := by omega
    have hc := cell_at hj
    have hs := ho.2 _ (List.getElem_mem hj)
    have hn := ho.1
    have h1 := hWr j
    have h2 := hW2 j
    rw [List.drop_eq_getElem_cons hj, linF] at hL
    refine Ev.step (fun k => format_Table.l3.eq_2 _ _ _ _ _ _ _ _ _ _ _) (Ev.pos (by omega) (Ev.pos (by omega) (Ev.pos (by omega) ?_)))
    rw [rdB _ j hj, wt (i := j) (n := r.length) (by omega) (by omega), w64 (x := (r.length : Int) - 1) (by omega) (by omega)]
    refine Ev.pos (by omega) ?_
    have hz : (a ++ r[j]).size = a.size + r[j].size := ByteArray.size_append
    by_cases e : j + 1 < r.length
    · rw [if_pos e] at hL
      have hsz : ((a ++ r[j]) ++ spc (W j - r[j].size + 2)).size = a.size + r[j].size + (W j - r[j].size + 2) := by rw [ByteArray.size_append, spc_size, hz]
      have hw : wrap64 ((wrap64 ((rd ws (j : Int)) - (r[j].size : Int))) + 2) = ((W j - r[j].size + 2 : Nat) : Int) := by
        rw [rdI, hW j, w64 (x := (W j : Int) - (r[j].size : Int)) (by omega) (by omega), w64 (by omega) (by omega)]
        omega
      have hrep : strings_Repeat.f (⟨#[32]⟩ : ByteArray) ((W j - r[j].size + 2 : Nat) : Int) = some (spc (W j - r[j].size + 2)) := by
        unfold strings_Repeat.f
        rw [if_pos ⟨by omega, by omega, by decide⟩, Int.toNat_natCast, rep_spc]
      rw [hw]
      refine Ev.pos (by omega) (Ev.pos (by omega) (Ev.bindc hrep (Ev.pos (by rw [spc_size]; omega) ?_)))
      exact row_go rows i r ws out ho hout W hW hlen hWr hW2 R L go d (j + 1) _ (by omega) (by omega) hL
    · rw [if_neg e] at hL
      exact Ev.neg (by omega) (row_go rows i r ws out ho hout W hW hlen hWr hW2 R L go d (j + 1) _ (by omega) (by omega) hL)
def lineS (rows : List (List ByteArray)) (r : List ByteArray) : ByteArray := linF (colW rows) r.length 0 r (⟨#[]⟩ : ByteArray)
theorem rows_go (rows : List (List ByteArray)) (hn : rows.length ≤ 20) (hr : ∀ r ∈ rows, OKr r) (ws : List Int) (h1 : ∀ r ∈ rows, r.length ≤ ws.length) (h2 : ∀ k : Nat, ws.getD k 0 = (colW rows k : Int)) :
    ∀ (d i : Nat) (out : List ByteArray), d + i = rows.length → out.length = i → Ev (fun k => format_Table.l2 k ws out rows (rows.length : Int) (i : Int)) (out ++ (rows.drop i).map (lineS rows))
  | 0, i, out, hd, ho => by
    rw [List.drop_of_length_le (by omega), List.map_nil, List.append_nil]
    exact Ev.step (fun k => format_Table.l2.eq_2 _ _ _ _ _ _) (Ev.neg (by omega) (Ev.now _))
  | d + 1, i, out, hd, ho => by
    have hi : i < rows.length := by omega
    have hm := List.getElem_mem hi
    have ih := rows_go rows hn hr ws h1 h2 d (i + 1) (out ++ [lineS rows rows[i]]) (by omega) (by rw [List.length_append]; simp; omega)
    rw [List.append_assoc] at ih
    rw [List.drop_eq_getElem_cons hi, List.map_cons]
    refine Ev.step (fun k => format_Table.l2.eq_2 _ _ _ _ _ _) (Ev.pos (by omega) (Ev.pos (by omega) (Ev.pos (by omega) ?_)))
    rw [rdL rows i hi]
    refine row_go rows i rows[i] ws out (hr _ hm) (by omega) (colW rows) h2 (h1 _ hm) (colW_cell rows _ hm) (colW_le rows hr) _ (lineS rows rows[i]) ?_ rows[i].length 0 _ (by omega) (Nat.zero_le _) rfl
    rw [wt (i := i) (n := rows.length) (by omega) (by omega)]
    exact ih
theorem table_tells (rows : List (List ByteArray)) (hn : rows.length ≤ 20) (hr : ∀ r ∈ rows, OKr r) : Ev (fun k => format_Table.f k rows) (rows.map (lineS rows)) :=
  wide_go rows hn hr _ (fun ws h1 h2 => rows_go rows hn hr ws h1 h2 rows.length 0 [] (by omega) rfl) rows.length 0 [] (by omega) (by simp) (by simp) (fun k => by simp [colW])
/-! ### the reference's -/
theorem rpad_go (rows : List (List ByteArray)) (i : Nat) (hi : i < rows.length) (ho : OKr rows[i]) (out : List ByteArray) (j w : Nat) (hj : j < rows[i].length) (hw : w ≤ 200) (R : List ByteArray) (F : ByteArray)
    (go : Ev (fun k => logbookref40_Table.l1 k rows out (i : Int) F ((j + 1 : Nat) : Int)) R) :
    ∀ (d m : Nat) (a : ByteArray), d + m = w + 2 → a.size ≤ 100000 + m → F = (if j + 1 < rows[i].length then a ++ spc d else a) →
      Ev (fun k => logbookref40_Table.l3 k rows out (i : Int) a (j : Int) (w : Int) (m : Int)) R
  | 0, m, a, hd, ha, hF => by
    have hF2 : F = a := by
      rw [hF]
      split
      · exact spc_zero a
      · rfl
    subst hF2
    refine Ev.step (fun k => logbookref40_Table.l3.eq_2 _ _ _ _ _ _ _ _) (Ev.neg (by rw [w64 (by omega) (by omega)]; omega) ?_)
    rw [wt (i := j) (n := 12) (by have := ho.1; omega) (by omega)]
    exact go
  | d + 1, m, a, hd, ha, hF => by
    have hn := ho.1
    refine Ev.step (fun k => logbookref40_Table.l3.eq_2 _ _ _ _ _ _ _ _) (Ev.pos (by rw [w64 (by omega) (by omega)]; omega) (Ev.pos (by omega) (Ev.pos (by omega) ?_)))
    rw [rdL rows i hi, w64 (x := (rows[i].length : Int) - 1) (by omega) (by omega)]
    by_cases e : j + 1 < rows[i].length
    · rw [if_pos e] at hF
      refine Ev.pos (by omega) (Ev.pos (by omega) ?_)
      rw [wt (i := m) (n := 1000) (by omega) (by omega)]
      refine rpad_go rows i hi ho out j w hj hw R F go d (m + 1) _ (by omega) ?_ ?_
      · rw [ByteArray.size_append]
        show a.size + 1 ≤ _
        omega
      · rw [if_pos e, spc_succ]
        exact hF
    · rw [if_neg e] at hF
      subst hF
      refine Ev.neg (by omega) ?_
      rw [wt (i := j) (n := 12) (by omega) (by omega)]
      exact go
theorem rcol_go (rows : List (List ByteArray)) (hn : rows.length ≤ 20) (hr : ∀ r ∈ rows, OKr r) (i j : Nat) (hj : j ≤ 12) (out : List ByteArray) (a : ByteArray) (R : List ByteArray)
    (go : Ev (fun k => if 0 ≤ (i : Int) then (if (i : Int) < (rows.length : Int) then (if 0 ≤ (j : Int) then (if (j : Int) < ((rd_L6 rows (i : Int)).length : Int) then (if a.size + (rdOf ByteArray.empty (rd_L6 rows (i : Int)) (j : Int)).size ≤ 9223372036854775807 then (logbookref40_Table.l3 k rows out (i : Int) (a ++ (rdOf ByteArray.empty (rd_L6 rows (i : Int)) (j : Int))) (j : Int) (colW rows j : Int) ((rdOf ByteArray.empty (rd_L6 rows (i : Int)) (j : Int)).size : Int)) else (none)) else (none)) else (none)) else (none)) else (none)) R) :
    ∀ (d m : Nat), d + m = rows.length → Ev (fun k => logbookref40_Table.l2 k rows out (i : Int) a (j : Int) (colW (rows.take m) j : Int) (m : Int)) R
  | 0, m, hd => by
    rw [List.take_of_length_le (by omega)]
    exact Ev.step (fun k => logbookref40_Table.l2.eq_2 _ _ _ _ _ _ _ _) (Ev.neg (by omega) go)
  | d + 1, m, hd => by
    have hm : m < rows.length := by omega
    have ho := hr _ (List.getElem_mem hm)
    have hlen := ho.1
    have ih := rcol_go rows hn hr i j hj out a R go d (m + 1) (by omega)
    have hts : rows.take (m + 1) = rows.take m ++ [rows[m]] := List.take_succ_eq_append_getElem hm
    rw [hts, colW_snoc] at ih
    refine Ev.step (fun k => logbookref40_Table.l2.eq_2 _ _ _ _ _ _ _ _) (Ev.pos (by omega) (Ev.pos (by omega) ?_))
    rw [rdL rows m hm, wt (i := m) (n := rows.length) (by omega) (by omega)]
    by_cases e : j < rows[m].length
    · refine Ev.pos (by omega) (Ev.pos (by omega) ?_)
      rw [rdB _ j e, ← cell_at e]
      refine Ev.both (fun h => ?_) (fun h => ?_)
      · rw [show max (colW (rows.take m) j) (cell rows[m] j) = cell rows[m] j by omega] at ih
        exact ih
      · rw [show max (colW (rows.take m) j) (cell rows[m] j) = colW (rows.take m) j by omega] at ih
        exact ih
    · rw [cell_out (by omega), Nat.max_zero] at ih
      exact Ev.neg (by omega) ih
theorem rrow_go (rows : List (List ByteArray)) (hn : rows.length ≤ 20) (hr : ∀ r ∈ rows, OKr r) (i : Nat) (hi : i < rows.length) (out : List ByteArray) (hout : out.length ≤ 1000) (R : List ByteArray) (L : ByteArray)
    (go : Ev (fun k => logbookref40_Table.l0 k rows (out ++ [L]) ((i + 1 : Nat) : Int)) R) :
    ∀ (d j : Nat) (a : ByteArray), d + j = rows[i].length → a.size ≤ 402 * j → linF (colW rows) rows[i].length j (rows[i].drop j) a = L →
      Ev (fun k => logbookref40_Table.l1 k rows out (i : Int) a (j : Int)) R
  | 0, j, a, hd, ha, hL => by
    rw [List.drop_of_length_le (by omega)] at hL
    have hL : a = L := hL
    subst hL
    refine Ev.step (fun k => logbookref40_Table.l1.eq_2 _ _ _ _ _ _) (Ev.pos (by omega) (Ev.pos (by omega) ?_))
    rw [rdL rows i hi, wt (i := i) (n := rows.length) (by omega) (by omega)]
    exact Ev.neg (by omega) (Ev.pos (by omega) go)
  | d + 1, j, a, hd, ha, hL => by
    have ho := hr _ (List.getElem_mem hi)
    have hj : j < rows[i].length := by omega
    have hs := ho.2 _ (List.getElem_mem hj)
    have hlen := ho.1
    have hc := cell_at hj
    have hcw := colW_cell rows _ (List.getElem_mem hi) j
    have hw2 := colW_le rows hr j
    have hz : (a ++ rows[i][j]).size = a.size + rows[i][j].size := ByteArray.size_append
    rw [List.drop_eq_getElem_cons hj, linF] at hL
    have hpad := rpad_go rows i hi ho out j (colW rows j) hj hw2 R (if j + 1 < rows[i].length then (a ++ rows[i][j]) ++ spc (colW rows j - rows[i][j].size + 2) else a ++ rows[i][j])
      (rrow_go rows hn hr i hi out hout R L go d (j + 1) _ (by omega) (by
        split
        · rw [ByteArray.size_append, spc_size, hz]
          omega
        · omega) hL) (colW rows j - rows[i][j].size + 2) rows[i][j].size (a ++ rows[i][j]) (by omega) (by omega) rfl
    refine Ev.step (fun k => logbookref40_Table.l1.eq_2 _ _ _ _ _ _) (Ev.pos (by omega) (Ev.pos (by omega) ?_))
    refine Ev.pos (by rw [rdL rows i hi]; omega) ?_
    refine rcol_go rows hn hr i j (by omega) out a R ?_ rows.length 0 (by omega)
    refine Ev.pos (by omega) (Ev.pos (by omega) (Ev.pos (by omega) (Ev.pos (by rw [rdL rows i hi]; omega) ?_)))
    rw [rdL rows i hi, rdB _ j hj]
    exact Ev.pos (by omega) hpad
theorem rrows_go (rows : List (List ByteArray)) (hn : rows.length ≤ 20) (hr : ∀ r ∈ rows, OKr r) :
    ∀ (d i : Nat) (out : List ByteArray), d + i = rows.length → out.length = i → Ev (fun k => logbookref40_Table.l0 k rows out (i : Int)) (out ++ (rows.drop i).map (lineS rows))
  | 0, i, out, hd, ho => by
    rw [List.drop_of_length_le (by omega), List.map_nil, List.append_nil]
    exact Ev.step (fun k => logbookref40_Table.l0.eq_2 _ _ _ _) (Ev.neg (by omega) (Ev.now _))
  | d + 1, i, out, hd, ho => by
    have hi : i < rows.length := by omega
    have ih := rrows_go rows hn hr d (i + 1) (out ++ [lineS rows rows[i]]) (by omega) (by rw [List.length_append]; simp; omega)
    rw [List.append_assoc] at ih
    rw [List.drop_eq_getElem_cons hi, List.map_cons]
    refine Ev.step (fun k => logbookref40_Table.l0.eq_2 _ _ _ _) (Ev.pos (by omega) ?_)
    exact rrow_go rows hn hr i hi out (by omega) _ (lineS rows rows[i]) ih rows[i].length 0 _ (by omega) (Nat.zero_le _) rfl
theorem rtable_tells (rows : List (List ByteArray)) (hn : rows.length ≤ 20) (hr : ∀ r ∈ rows, OKr r) : Ev (fun k => logbookref40_Table.f k rows) (rows.map (lineS rows)) := rrows_go rows hn hr rows.length 0 [] (by omega) rfl
theorem ttexts_go (l : List ByteArray) (hl : l.length ≤ 1000000) : ∀ (d i : Nat), d + i = l.length → Ev (fun k => logbookref04_Texts.l0 k l l i) true
  | 0, i, hd => Ev.step (fun k => logbookref04_Texts.l0.eq_2 _ _ _ _) (Ev.neg (by omega) (Ev.now _))
  | d + 1, i, hd => by
    refine Ev.step (fun k => logbookref04_Texts.l0.eq_2 _ _ _ _) (Ev.pos (by omega) (Ev.pos (by omega) (Ev.pos (by omega) (Ev.pos rfl ?_))))
    rw [wt (i := i) (n := l.length) (by omega) (by omega)]
    exact ttexts_go l hl d (i + 1) (by omega)
theorem ttexts_tells (l : List ByteArray) (hl : l.length ≤ 1000000) : Ev (fun k => logbookref04_Texts.f k l l) true := Ev.pos rfl (ttexts_go l hl l.length 0 (by omega))
theorem tfew_go (l : List ByteArray) : ∀ (d i : Nat) (x : Int), d + i = min l.length 70 → ∃ b, Ev (fun k => logbooklaw40_few.l0 k l x (i : Int)) b
  | 0, i, x, hd => by
    by_cases h : (l.length : Int) ≤ 70
    · exact ⟨decide (x ≤ 4000), Ev.step (fun k => logbooklaw40_few.l0.eq_2 _ _ _ _) (Ev.neg (by omega) (Ev.pos h (Ev.now _)))⟩
    · exact ⟨false, Ev.step (fun k => logbooklaw40_few.l0.eq_2 _ _ _ _) (Ev.pos (by omega) (Ev.neg (by omega) (Ev.neg h (Ev.now _))))⟩
  | d + 1, i, x, hd => by
    obtain ⟨b, hb⟩ := tfew_go l d (i + 1) (wrap64 (x + (mn ((rdOf ByteArray.empty l (i : Int)).size : Int) 3000))) (by omega)
    refine ⟨b, Ev.step (fun k => logbooklaw40_few.l0.eq_2 _ _ _ _) (Ev.pos (by omega) (Ev.pos (by omega) (Ev.pos (by omega) ?_)))⟩
    rw [wt (i := i) (n := 70) (by omega) (by omega)]
    exact hb
theorem tfew_tells (l : List ByteArray) : ∃ b, Ev (fun k => logbooklaw40_few.f k l) b := tfew_go l (min l.length 70) 0 0 (by omega)
theorem tcells_go (rows : List (List ByteArray)) (i : Nat) (hi : i < rows.length) (h12 : rows[i].length ≤ 12)
    (go : (∀ x : ByteArray, x ∈ rows[i] → x.size ≤ 200) → Ev (fun k => logbooklaw40_FormatTables.l0 k rows (wrap64 ((i : Int) + 1))) true) :
    ∀ (d j : Nat), d + j = rows[i].length → (∀ x : ByteArray, x ∈ rows[i].take j → x.size ≤ 200) → Ev (fun k => logbooklaw40_FormatTables.l1 k rows (i : Int) (j : Int)) true
  | 0, j, hd, h => by
    rw [List.take_of_length_le (by omega)] at h
    refine Ev.step (fun k => logbooklaw40_FormatTables.l1.eq_2 _ _ _ _) (Ev.pos (by omega) (Ev.pos (by omega) ?_))
    rw [rdL rows i hi]
    exact Ev.neg (by omega) (go h)
  | d + 1, j, hd, h => by
    have hj : j < rows[i].length := by omega
    refine Ev.step (fun k => logbooklaw40_FormatTables.l1.eq_2 _ _ _ _) (Ev.pos (by omega) (Ev.pos (by omega) ?_))
    rw [rdL rows i hi, rdB _ j hj, wt (i := j) (n := 12) (by omega) (by omega)]
    refine Ev.pos (by omega) (Ev.pos (by omega) (Ev.both (fun _ => Ev.bind awake_tells (Ev.now _)) (fun h2 => ?_)))
    refine tcells_go rows i hi h12 go d (j + 1) (by omega) (fun x hx => ?_)
    rw [List.take_succ_eq_append_getElem hj] at hx
    rcases List.mem_append.1 hx with hx | hx
    · exact h x hx
    · rw [List.mem_singleton.1 hx]
      omega
theorem tlaw_go (rows : List (List ByteArray)) (hn : rows.length ≤ 20) : ∀ (d i : Nat), d + i = rows.length → (∀ r ∈ rows.take i, OKr r) → Ev (fun k => logbooklaw40_FormatTables.l0 k rows (i : Int)) true
  | 0, i, hd, h => by
    rw [List.take_of_length_le (by omega)] at h
    refine Ev.step (fun k => logbooklaw40_FormatTables.l0.eq_2 _ _ _) (Ev.neg (by omega) ?_)
    exact Ev.bind (table_tells rows hn h) (Ev.bind (rtable_tells rows hn h) (Ev.bind (ttexts_tells _ (by rw [List.length_map]; omega)) (Ev.pos rfl (Ev.bind awake_tells (Ev.now _)))))
  | d + 1, i, hd, h => by
    have hi : i < rows.length := by omega
    refine Ev.step (fun k => logbooklaw40_FormatTables.l0.eq_2 _ _ _) (Ev.pos (by omega) (Ev.pos (by omega) ?_))
    rw [rdL rows i hi]
    refine Ev.both (fun _ => Ev.step (fun k => logbooklaw40_FormatTables.j1.eq_2 _ _ _ _) (Ev.pos rfl (Ev.bind awake_tells (Ev.now _)))) (fun h12 => ?_)
    obtain ⟨b, hb⟩ := tfew_tells rows[i]
    refine Ev.bind hb (Ev.step (fun k => logbooklaw40_FormatTables.j1.eq_2 _ _ _ _) (Ev.both (fun _ => Ev.bind awake_tells (Ev.now _)) (fun _ => ?_)))
    refine tcells_go rows i hi (by omega) (fun hz => ?_) rows[i].length 0 (by omega) (by simp)
    rw [wt (i := i) (n := rows.length) (by omega) (by omega)]
    refine tlaw_go rows hn d (i + 1) (by omega) (fun r hr => ?_)
    rw [List.take_succ_eq_append_getElem hi] at hr
    rcases List.mem_append.1 hr with hr | hr
    · exact h r hr
    · rw [List.mem_singleton.1 hr]
      exact ⟨by omega, hz⟩
theorem law (rows : List (List ByteArray)) : ∃ k, logbooklaw40_FormatTables.f k rows = some true := by
  refine Ev.at (Ev.both (fun _ => Ev.bind awake_tells (Ev.now _)) (fun h => ?_))
  exact tlaw_go rows (by omega) rows.length 0 (by omega) (by simp)
end FT
end Go.Proofs.Ytbakfpiflcaacaa.Pure
namespace Go.Proofs.Ytbakfpiflcaacaa.PureFormatTables
set_option linter.unusedVariables false
open Go.Proofs.Ytbakfpiflcaacaa.PFormatTables
theorem FormatTables (y0 : List (List (ByteArray)))
    (w0 : (y0.length ≤ maxLen ∧ y0.length * 24 ≤ 140737488351232 ∧ ∀ x ∈ y0, (x.length ≤ maxLen ∧ x.length * 16 ≤ 140737488351232 ∧ ∀ x1 ∈ x, x1.size ≤ 140737488351232))) :
    ∃ k, logbooklaw40_FormatTables.f k y0 = some true := Pure.FT.law y0
end Go.Proofs.Ytbakfpiflcaacaa.PureFormatTables
