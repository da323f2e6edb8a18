-- LAID BY gprint.py: a scratch copy of the print, with functions that this session proved by hand among the printed ones
import Derived.Test.YtbakfpiflcaacaaPFormatVerbosex0
import Derived.Test.YtbakfpiflcaacaaPFormatVerbosex8
namespace Go.Proofs.Ytbakfpiflcaacaa.PFormatVerbose
open Go.RowKit Go.Proofs.YtbakfpiflcaacaaW.PrintWords Go.Proofs.YtbakfpiflcaacaaW.PrintLast Go.Proofs.Ytbakfpiflcaacaa.Conv Go.Proofs.Ytbakfpiflcaacaa.Bld Go.Proofs.YtbakfpiflcaacaaW.PrintMore
attribute [local go_sem] max2_int min2_int max_two min_two max_three min_three max_four min_four gtr_less   -- for this text's walks alone
set_option linter.unusedVariables false
set_option linter.unusedSimpArgs false

/-! ### logbookref34_Text: function 31 -/
def logbookref34_Text.f (k : Nat) (a0_0 : Int) (a0_1 : Int) (a0_2 : Int) (a0_3 : Int) (a0_4 : Int) (a0_5 : Int) (a0_6 : Int) : Option (ByteArray) := (logbookref34_two.f k a0_0 4).bind fun t232 => (if t232.size + 1 ≤ 9223372036854775807 then ((logbookref34_two.f k a0_1 2).bind fun t233 => (if t232.size + 1 + t233.size ≤ 9223372036854775807 then (if t232.size + 1 + t233.size + 1 ≤ 9223372036854775807 then ((logbookref34_two.f k a0_2 2).bind fun t234 => (if t232.size + 1 + t233.size + 1 + t234.size ≤ 9223372036854775807 then (if t232.size + 1 + t233.size + 1 + t234.size + 1 ≤ 9223372036854775807 then ((logbookref34_two.f k a0_3 2).bind fun t235 => (if t232.size + 1 + t233.size + 1 + t234.size + 1 + t235.size ≤ 9223372036854775807 then (if t232.size + 1 + t233.size + 1 + t234.size + 1 + t235.size + 1 ≤ 9223372036854775807 then ((logbookref34_two.f k a0_4 2).bind fun t236 => (if t232.size + 1 + t233.size + 1 + t234.size + 1 + t235.size + 1 + t236.size ≤ 9223372036854775807 then (if t232.size + 1 + t233.size + 1 + t234.size + 1 + t235.size + 1 + t236.size + 1 ≤ 9223372036854775807 then ((logbookref34_two.f k a0_5 2).bind fun t237 => (if t232.size + 1 + t233.size + 1 + t234.size + 1 + t235.size + 1 + t236.size + 1 + t237.size ≤ 9223372036854775807 then (if t232.size + 1 + t233.size + 1 + t234.size + 1 + t235.size + 1 + t236.size + 1 + t237.size + 1 ≤ 9223372036854775807 then ((logbookref34_two.f k a0_6 6).bind fun t238 => (if t232.size + 1 + t233.size + 1 + t234.size + 1 + t235.size + 1 + t236.size + 1 + t237.size + 1 + t238.size ≤ 9223372036854775807 then (some ((((((((((((t232 ++ (⟨#[45]⟩ : ByteArray)) ++ t233) ++ (⟨#[45]⟩ : ByteArray)) ++ t234) ++ (⟨#[32]⟩ : ByteArray)) ++ t235) ++ (⟨#[58]⟩ : ByteArray)) ++ t236) ++ (⟨#[58]⟩ : ByteArray)) ++ t237) ++ (⟨#[46]⟩ : ByteArray)) ++ t238)) else (none))) else (none)) else (none))) else (none)) else (none))) else (none)) else (none))) else (none)) else (none))) else (none)) else (none))) else (none))
theorem logbookref34_Text.mono : ∀ a0 a1 a2 a3 a4 a5 a6 k, LeO (logbookref34_Text.f k a0 a1 a2 a3 a4 a5 a6) (logbookref34_Text.f (k + 1) a0 a1 a2 a3 a4 a5 a6) := by
  intro a0 a1 a2 a3 a4 a5 a6 k
  unfold logbookref34_Text.f
  repeat' first
      | (with_reducible exact logbookref34_two.mono _ _ _)
      | (with_reducible exact LeO.refl _)
      | (with_reducible exact LeO.none _)
      | (with_reducible refine LeO.ite ?_ ?_)
      | (with_reducible refine LeO.bind ?_ (fun _ => ?_))
      | exact logbookref34_two.mono _ _ _
      | exact LeO.none _
      | refine LeO.ite ?_ ?_
      | refine LeO.bind ?_ (fun _ => ?_)
def logbookref34_Text.T1 : Bool × List (List Nat × List Nat) := (true, [([], []), ([0], [0]), ([1], [1]), ([2], [2]), ([], []), ([4], [4]), ([5, 2], [5]), ([3, 6], [3, 6]), ([7], [7]), ([], []), ([9], [9]), ([10, 6], [10]), ([8, 11], [8, 11]), ([12], [12]), ([], []), ([14], [14]), ([15, 11], [15]), ([13, 16], [13, 16]), ([17], [17]), ([], []), ([19], [19]), ([20, 16], [20]), ([18, 21], [18, 21]), ([22], [22]), ([], []), ([24], [24]), ([25, 21], [25]), ([23, 26], [23, 26]), ([27], [27]), ([], []), ([29], [29]), ([30, 26], [30]), ([28, 31], [28, 31]), ([32, 31, 0, 1, 2, 3, 4, 5, 6, 7, 8, 9, 10, 11, 12, 13, 14, 15, 16, 17, 18, 19, 20, 21, 22, 23, 24, 25, 26, 27, 28, 29, 30, 31, 32], [32])])
def logbookref34_Text.B1 : List Nat := [0, 1, 3, 7, 0, 16, 55, 127, 255, 0, 512, 1655, 4095, 8191, 0, 16384, 52855, 131071, 262143, 0, 524288, 1691255, 4194303, 8388607, 0, 16777216, 54120055, 134217727, 268435455, 0, 536870912, 1731841655, 4294967295, 8589934591]
theorem logbookref34_Text.tab1 : rtab .any (opsOf Try.f31 1) = logbookref34_Text.T1 := by kernel_rfl
theorem logbookref34_Text.bits1 : waitsOk logbookref34_Text.T1.2 logbookref34_Text.B1 = true := by kernel_rfl
set_option maxHeartbeats 8000000 in
set_option maxRecDepth 100000 in
theorem logbookref34_Text.calls (k : Nat) (a0_0 : Int) (a0_1 : Int) (a0_2 : Int) (a0_3 : Int) (a0_4 : Int) (a0_5 : Int) (a0_6 : Int) (r : ByteArray) (w : World) (h : logbookref34_Text.f k a0_0 a0_1 a0_2 a0_3 a0_4 a0_5 a0_6 = some r) :
    Calls Try.prog 31 #[.agg #[.int .i64 a0_0, .int .i64 a0_1, .int .i64 a0_2, .int .i64 a0_3, .int .i64 a0_4, .int .i64 a0_5, .int .i64 a0_6]] w fun e w' => e = .returned (.string r) ∧ Below w.heap.size w w' := by
  have hu47 := Try.underlying47
  have HB := Aside0.mk (Below.refl w.heap.size w)
  have H : ((logbookref34_two.f k a0_0 4).bind fun t232 => (if t232.size + 1 ≤ 9223372036854775807 then ((logbookref34_two.f k a0_1 2).bind fun t233 => (if t232.size + 1 + t233.size ≤ 9223372036854775807 then (if t232.size + 1 + t233.size + 1 ≤ 9223372036854775807 then ((logbookref34_two.f k a0_2 2).bind fun t234 => (if t232.size + 1 + t233.size + 1 + t234.size ≤ 9223372036854775807 then (if t232.size + 1 + t233.size + 1 + t234.size + 1 ≤ 9223372036854775807 then ((logbookref34_two.f k a0_3 2).bind fun t235 => (if t232.size + 1 + t233.size + 1 + t234.size + 1 + t235.size ≤ 9223372036854775807 then (if t232.size + 1 + t233.size + 1 + t234.size + 1 + t235.size + 1 ≤ 9223372036854775807 then ((logbookref34_two.f k a0_4 2).bind fun t236 => (if t232.size + 1 + t233.size + 1 + t234.size + 1 + t235.size + 1 + t236.size ≤ 9223372036854775807 then (if t232.size + 1 + t233.size + 1 + t234.size + 1 + t235.size + 1 + t236.size + 1 ≤ 9223372036854775807 then ((logbookref34_two.f k a0_5 2).bind fun t237 => (if t232.size + 1 + t233.size + 1 + t234.size + 1 + t235.size + 1 + t236.size + 1 + t237.size ≤ 9223372036854775807 then (if t232.size + 1 + t233.size + 1 + t234.size + 1 + t235.size + 1 + t236.size + 1 + t237.size + 1 ≤ 9223372036854775807 then ((logbookref34_two.f k a0_6 6).bind fun t238 => (if t232.size + 1 + t233.size + 1 + t234.size + 1 + t235.size + 1 + t236.size + 1 + t237.size + 1 + t238.size ≤ 9223372036854775807 then (some ((((((((((((t232 ++ (⟨#[45]⟩ : ByteArray)) ++ t233) ++ (⟨#[45]⟩ : ByteArray)) ++ t234) ++ (⟨#[32]⟩ : ByteArray)) ++ t235) ++ (⟨#[58]⟩ : ByteArray)) ++ t236) ++ (⟨#[58]⟩ : ByteArray)) ++ t237) ++ (⟨#[46]⟩ : ByteArray)) ++ t238)) else (none))) else (none)) else (none))) else (none)) else (none))) else (none)) else (none))) else (none)) else (none))) else (none)) else (none))) else (none))) = some r := h
  clear h
  replace H := Option.bind_eq_some_iff.mp H
  obtain ⟨t232, A20, H⟩ := H
  replace H : (if t232.size + 1 ≤ 9223372036854775807 then ((logbookref34_two.f k a0_1 2).bind fun t233 => (if t232.size + 1 + t233.size ≤ 9223372036854775807 then (if t232.size + 1 + t233.size + 1 ≤ 9223372036854775807 then ((logbookref34_two.f k a0_2 2).bind fun t234 => (if t232.size + 1 + t233.size + 1 + t234.size ≤ 9223372036854775807 then (if t232.size + 1 + t233.size + 1 + t234.size + 1 ≤ 9223372036854775807 then ((logbookref34_two.f k a0_3 2).bind fun t235 => (if t232.size + 1 + t233.size + 1 + t234.size + 1 + t235.size ≤ 9223372036854775807 then (if t232.size + 1 + t233.size + 1 + t234.size + 1 + t235.size + 1 ≤ 9223372036854775807 then ((logbookref34_two.f k a0_4 2).bind fun t236 => (if t232.size + 1 + t233.size + 1 + t234.size + 1 + t235.size + 1 + t236.size ≤ 9223372036854775807 then (if t232.size + 1 + t233.size + 1 + t234.size + 1 + t235.size + 1 + t236.size + 1 ≤ 9223372036854775807 then ((logbookref34_two.f k a0_5 2).bind fun t237 => (if t232.size + 1 + t233.size + 1 + t234.size + 1 + t235.size + 1 + t236.size + 1 + t237.size ≤ 9223372036854775807 then (if t232.size + 1 + t233.size + 1 + t234.size + 1 + t235.size + 1 + t236.size + 1 + t237.size + 1 ≤ 9223372036854775807 then ((logbookref34_two.f k a0_6 6).bind fun t238 => (if t232.size + 1 + t233.size + 1 + t234.size + 1 + t235.size + 1 + t236.size + 1 + t237.size + 1 + t238.size ≤ 9223372036854775807 then (some ((((((((((((t232 ++ (⟨#[45]⟩ : ByteArray)) ++ t233) ++ (⟨#[45]⟩ : ByteArray)) ++ t234) ++ (⟨#[32]⟩ : ByteArray)) ++ t235) ++ (⟨#[58]⟩ : ByteArray)) ++ t236) ++ (⟨#[58]⟩ : ByteArray)) ++ t237) ++ (⟨#[46]⟩ : ByteArray)) ++ t238)) else (none))) else (none)) else (none))) else (none)) else (none))) else (none)) else (none))) else (none)) else (none))) else (none)) else (none))) else (none)) = some r := H
  have A2 := Aside0.mk A20
  clear A20
  by_cases c3 : t232.size + 1 ≤ 9223372036854775807
  · rw [if_pos c3] at H
    have c3b0 := eq_true c3
    have c3b1 : decide (t232.size + 1 ≤ 9223372036854775807) = true := decide_eq_true c3
    try have c3b2 : (9223372036854775807 < t232.size + 1) = False := eq_false (Nat.not_lt.2 c3)
    replace H := Option.bind_eq_some_iff.mp H
    obtain ⟨t233, A40, H⟩ := H
    replace H : (if t232.size + 1 + t233.size ≤ 9223372036854775807 then (if t232.size + 1 + t233.size + 1 ≤ 9223372036854775807 then ((logbookref34_two.f k a0_2 2).bind fun t234 => (if t232.size + 1 + t233.size + 1 + t234.size ≤ 9223372036854775807 then (if t232.size + 1 + t233.size + 1 + t234.size + 1 ≤ 9223372036854775807 then ((logbookref34_two.f k a0_3 2).bind fun t235 => (if t232.size + 1 + t233.size + 1 + t234.size + 1 + t235.size ≤ 9223372036854775807 then (if t232.size + 1 + t233.size + 1 + t234.size + 1 + t235.size + 1 ≤ 9223372036854775807 then ((logbookref34_two.f k a0_4 2).bind fun t236 => (if t232.size + 1 + t233.size + 1 + t234.size + 1 + t235.size + 1 + t236.size ≤ 9223372036854775807 then (if t232.size + 1 + t233.size + 1 + t234.size + 1 + t235.size + 1 + t236.size + 1 ≤ 9223372036854775807 then ((logbookref34_two.f k a0_5 2).bind fun t237 => (if t232.size + 1 + t233.size + 1 + t234.size + 1 + t235.size + 1 + t236.size + 1 + t237.size ≤ 9223372036854775807 then (if t232.size + 1 + t233.size + 1 + t234.size + 1 + t235.size + 1 + t236.size + 1 + t237.size + 1 ≤ 9223372036854775807 then ((logbookref34_two.f k a0_6 6).bind fun t238 => (if t232.size + 1 + t233.size + 1 + t234.size + 1 + t235.size + 1 + t236.size + 1 + t237.size + 1 + t238.size ≤ 9223372036854775807 then (some ((((((((((((t232 ++ (⟨#[45]⟩ : ByteArray)) ++ t233) ++ (⟨#[45]⟩ : ByteArray)) ++ t234) ++ (⟨#[32]⟩ : ByteArray)) ++ t235) ++ (⟨#[58]⟩ : ByteArray)) ++ t236) ++ (⟨#[58]⟩ : ByteArray)) ++ t237) ++ (⟨#[46]⟩ : ByteArray)) ++ t238)) else (none))) else (none)) else (none))) else (none)) else (none))) else (none)) else (none))) else (none)) else (none))) else (none)) else (none)) = some r := H
    have A4 := Aside0.mk A40
    clear A40
    by_cases c5 : t232.size + 1 + t233.size ≤ 9223372036854775807
    · rw [if_pos c5] at H
      have c5b0 := eq_true c5
      have c5b1 : decide (t232.size + 1 + t233.size ≤ 9223372036854775807) = true := decide_eq_true c5
      try have c5b2 : (9223372036854775807 < t232.size + 1 + t233.size) = False := eq_false (Nat.not_lt.2 c5)
      by_cases c6 : t232.size + 1 + t233.size + 1 ≤ 9223372036854775807
      · rw [if_pos c6] at H
        have c6b0 := eq_true c6
        have c6b1 : decide (t232.size + 1 + t233.size + 1 ≤ 9223372036854775807) = true := decide_eq_true c6
        try have c6b2 : (9223372036854775807 < t232.size + 1 + t233.size + 1) = False := eq_false (Nat.not_lt.2 c6)
        replace H := Option.bind_eq_some_iff.mp H
        obtain ⟨t234, A70, H⟩ := H
        replace H : (if t232.size + 1 + t233.size + 1 + t234.size ≤ 9223372036854775807 then (if t232.size + 1 + t233.size + 1 + t234.size + 1 ≤ 9223372036854775807 then ((logbookref34_two.f k a0_3 2).bind fun t235 => (if t232.size + 1 + t233.size + 1 + t234.size + 1 + t235.size ≤ 9223372036854775807 then (if t232.size + 1 + t233.size + 1 + t234.size + 1 + t235.size + 1 ≤ 9223372036854775807 then ((logbookref34_two.f k a0_4 2).bind fun t236 => (if t232.size + 1 + t233.size + 1 + t234.size + 1 + t235.size + 1 + t236.size ≤ 9223372036854775807 then (if t232.size + 1 + t233.size + 1 + t234.size + 1 + t235.size + 1 + t236.size + 1 ≤ 9223372036854775807 then ((logbookref34_two.f k a0_5 2).bind fun t237 => (if t232.size + 1 + t233.size + 1 + t234.size + 1 + t235.size + 1 + t236.size + 1 + t237.size ≤ 9223372036854775807 then (if t232.size + 1 + t233.size + 1 + t234.size + 1 + t235.size + 1 + t236.size + 1 + t237.size + 1 ≤ 9223372036854775807 then ((logbookref34_two.f k a0_6 6).bind fun t238 => (if t232.size + 1 + t233.size + 1 + t234.size + 1 + t235.size + 1 + t236.size + 1 + t237.size + 1 + t238.size ≤ 9223372036854775807 then (some ((((((((((((t232 ++ (⟨#[45]⟩ : ByteArray)) ++ t233) ++ (⟨#[45]⟩ : ByteArray)) ++ t234) ++ (⟨#[32]⟩ : ByteArray)) ++ t235) ++ (⟨#[58]⟩ : ByteArray)) ++ t236) ++ (⟨#[58]⟩ : ByteArray)) ++ t237) ++ (⟨#[46]⟩ : ByteArray)) ++ t238)) else (none))) else (none)) else (none))) else (none)) else (none))) else (none)) else (none))) else (none)) else (none)) = some r := H
        have A7 := Aside0.mk A70
        clear A70
        by_cases c8 : t232.size + 1 + t233.size + 1 + t234.size ≤ 9223372036854775807
        · rw [if_pos c8] at H
          have c8b0 := eq_true c8
          have c8b1 : decide (t232.size + 1 + t233.size + 1 + t234.size ≤ 9223372036854775807) = true := decide_eq_true c8
          try have c8b2 : (9223372036854775807 < t232.size + 1 + t233.size + 1 + t234.size) = False := eq_false (Nat.not_lt.2 c8)
          by_cases c9 : t232.size + 1 + t233.size + 1 + t234.size + 1 ≤ 9223372036854775807
          · rw [if_pos c9] at H
            have c9b0 := eq_true c9
            have c9b1 : decide (t232.size + 1 + t233.size + 1 + t234.size + 1 ≤ 9223372036854775807) = true := decide_eq_true c9
            try have c9b2 : (9223372036854775807 < t232.size + 1 + t233.size + 1 + t234.size + 1) = False := eq_false (Nat.not_lt.2 c9)
            replace H := Option.bind_eq_some_iff.mp H
            obtain ⟨t235, A100, H⟩ := H
            replace H : (if t232.size + 1 + t233.size + 1 + t234.size + 1 + t235.size ≤ 9223372036854775807 then (if t232.size + 1 + t233.size + 1 + t234.size + 1 + t235.size + 1 ≤ 9223372036854775807 then ((logbookref34_two.f k a0_4 2).bind fun t236 => (if t232.size + 1 + t233.size + 1 + t234.size + 1 + t235.size + 1 + t236.size ≤ 9223372036854775807 then (if t232.size + 1 + t233.size + 1 + t234.size + 1 + t235.size + 1 + t236.size + 1 ≤ 9223372036854775807 then ((logbookref34_two.f k a0_5 2).bind fun t237 => (if t232.size + 1 + t233.size + 1 + t234.size + 1 + t235.size + 1 + t236.size + 1 + t237.size ≤ 9223372036854775807 then (if t232.size + 1 + t233.size + 1 + t234.size + 1 + t235.size + 1 + t236.size + 1 + t237.size + 1 ≤ 9223372036854775807 then ((logbookref34_two.f k a0_6 6).bind fun t238 => (if t232.size + 1 + t233.size + 1 + t234.size + 1 + t235.size + 1 + t236.size + 1 + t237.size + 1 + t238.size ≤ 9223372036854775807 then (some ((((((((((((t232 ++ (⟨#[45]⟩ : ByteArray)) ++ t233) ++ (⟨#[45]⟩ : ByteArray)) ++ t234) ++ (⟨#[32]⟩ : ByteArray)) ++ t235) ++ (⟨#[58]⟩ : ByteArray)) ++ t236) ++ (⟨#[58]⟩ : ByteArray)) ++ t237) ++ (⟨#[46]⟩ : ByteArray)) ++ t238)) else (none))) else (none)) else (none))) else (none)) else (none))) else (none)) else (none)) = some r := H
            have A10 := Aside0.mk A100
            clear A100
            by_cases c11 : t232.size + 1 + t233.size + 1 + t234.size + 1 + t235.size ≤ 9223372036854775807
            · rw [if_pos c11] at H
              have c11b0 := eq_true c11
              have c11b1 : decide (t232.size + 1 + t233.size + 1 + t234.size + 1 + t235.size ≤ 9223372036854775807) = true := decide_eq_true c11
              try have c11b2 : (9223372036854775807 < t232.size + 1 + t233.size + 1 + t234.size + 1 + t235.size) = False := eq_false (Nat.not_lt.2 c11)
              by_cases c12 : t232.size + 1 + t233.size + 1 + t234.size + 1 + t235.size + 1 ≤ 9223372036854775807
              · rw [if_pos c12] at H
                have c12b0 := eq_true c12
                have c12b1 : decide (t232.size + 1 + t233.size + 1 + t234.size + 1 + t235.size + 1 ≤ 9223372036854775807) = true := decide_eq_true c12
                try have c12b2 : (9223372036854775807 < t232.size + 1 + t233.size + 1 + t234.size + 1 + t235.size + 1) = False := eq_false (Nat.not_lt.2 c12)
                replace H := Option.bind_eq_some_iff.mp H
                obtain ⟨t236, A130, H⟩ := H
                replace H : (if t232.size + 1 + t233.size + 1 + t234.size + 1 + t235.size + 1 + t236.size ≤ 9223372036854775807 then (if t232.size + 1 + t233.size + 1 + t234.size + 1 + t235.size + 1 + t236.size + 1 ≤ 9223372036854775807 then ((logbookref34_two.f k a0_5 2).bind fun t237 => (if t232.size + 1 + t233.size + 1 + t234.size + 1 + t235.size + 1 + t236.size + 1 + t237.size ≤ 9223372036854775807 then (if t232.size + 1 + t233.size + 1 + t234.size + 1 + t235.size + 1 + t236.size + 1 + t237.size + 1 ≤ 9223372036854775807 then ((logbookref34_two.f k a0_6 6).bind fun t238 => (if t232.size + 1 + t233.size + 1 + t234.size + 1 + t235.size + 1 + t236.size + 1 + t237.size + 1 + t238.size ≤ 9223372036854775807 then (some ((((((((((((t232 ++ (⟨#[45]⟩ : ByteArray)) ++ t233) ++ (⟨#[45]⟩ : ByteArray)) ++ t234) ++ (⟨#[32]⟩ : ByteArray)) ++ t235) ++ (⟨#[58]⟩ : ByteArray)) ++ t236) ++ (⟨#[58]⟩ : ByteArray)) ++ t237) ++ (⟨#[46]⟩ : ByteArray)) ++ t238)) else (none))) else (none)) else (none))) else (none)) else (none)) = some r := H
                have A13 := Aside0.mk A130
                clear A130
                by_cases c14 : t232.size + 1 + t233.size + 1 + t234.size + 1 + t235.size + 1 + t236.size ≤ 9223372036854775807
                · rw [if_pos c14] at H
                  have c14b0 := eq_true c14
                  have c14b1 : decide (t232.size + 1 + t233.size + 1 + t234.size + 1 + t235.size + 1 + t236.size ≤ 9223372036854775807) = true := decide_eq_true c14
                  try have c14b2 : (9223372036854775807 < t232.size + 1 + t233.size + 1 + t234.size + 1 + t235.size + 1 + t236.size) = False := eq_false (Nat.not_lt.2 c14)
                  by_cases c15 : t232.size + 1 + t233.size + 1 + t234.size + 1 + t235.size + 1 + t236.size + 1 ≤ 9223372036854775807
                  · rw [if_pos c15] at H
                    have c15b0 := eq_true c15
                    have c15b1 : decide (t232.size + 1 + t233.size + 1 + t234.size + 1 + t235.size + 1 + t236.size + 1 ≤ 9223372036854775807) = true := decide_eq_true c15
                    try have c15b2 : (9223372036854775807 < t232.size + 1 + t233.size + 1 + t234.size + 1 + t235.size + 1 + t236.size + 1) = False := eq_false (Nat.not_lt.2 c15)
                    replace H := Option.bind_eq_some_iff.mp H
                    obtain ⟨t237, A160, H⟩ := H
                    replace H : (if t232.size + 1 + t233.size + 1 + t234.size + 1 + t235.size + 1 + t236.size + 1 + t237.size ≤ 9223372036854775807 then (if t232.size + 1 + t233.size + 1 + t234.size + 1 + t235.size + 1 + t236.size + 1 + t237.size + 1 ≤ 9223372036854775807 then ((logbookref34_two.f k a0_6 6).bind fun t238 => (if t232.size + 1 + t233.size + 1 + t234.size + 1 + t235.size + 1 + t236.size + 1 + t237.size + 1 + t238.size ≤ 9223372036854775807 then (some ((((((((((((t232 ++ (⟨#[45]⟩ : ByteArray)) ++ t233) ++ (⟨#[45]⟩ : ByteArray)) ++ t234) ++ (⟨#[32]⟩ : ByteArray)) ++ t235) ++ (⟨#[58]⟩ : ByteArray)) ++ t236) ++ (⟨#[58]⟩ : ByteArray)) ++ t237) ++ (⟨#[46]⟩ : ByteArray)) ++ t238)) else (none))) else (none)) else (none)) = some r := H
                    have A16 := Aside0.mk A160
                    clear A160
                    by_cases c17 : t232.size + 1 + t233.size + 1 + t234.size + 1 + t235.size + 1 + t236.size + 1 + t237.size ≤ 9223372036854775807
                    · rw [if_pos c17] at H
                      have c17b0 := eq_true c17
                      have c17b1 : decide (t232.size + 1 + t233.size + 1 + t234.size + 1 + t235.size + 1 + t236.size + 1 + t237.size ≤ 9223372036854775807) = true := decide_eq_true c17
                      try have c17b2 : (9223372036854775807 < t232.size + 1 + t233.size + 1 + t234.size + 1 + t235.size + 1 + t236.size + 1 + t237.size) = False := eq_false (Nat.not_lt.2 c17)
                      by_cases c18 : t232.size + 1 + t233.size + 1 + t234.size + 1 + t235.size + 1 + t236.size + 1 + t237.size + 1 ≤ 9223372036854775807
                      · rw [if_pos c18] at H
                        have c18b0 := eq_true c18
                        have c18b1 : decide (t232.size + 1 + t233.size + 1 + t234.size + 1 + t235.size + 1 + t236.size + 1 + t237.size + 1 ≤ 9223372036854775807) = true := decide_eq_true c18
                        try have c18b2 : (9223372036854775807 < t232.size + 1 + t233.size + 1 + t234.size + 1 + t235.size + 1 + t236.size + 1 + t237.size + 1) = False := eq_false (Nat.not_lt.2 c18)
                        replace H := Option.bind_eq_some_iff.mp H
                        obtain ⟨t238, A190, H⟩ := H
                        replace H : (if t232.size + 1 + t233.size + 1 + t234.size + 1 + t235.size + 1 + t236.size + 1 + t237.size + 1 + t238.size ≤ 9223372036854775807 then (some ((((((((((((t232 ++ (⟨#[45]⟩ : ByteArray)) ++ t233) ++ (⟨#[45]⟩ : ByteArray)) ++ t234) ++ (⟨#[32]⟩ : ByteArray)) ++ t235) ++ (⟨#[58]⟩ : ByteArray)) ++ t236) ++ (⟨#[58]⟩ : ByteArray)) ++ t237) ++ (⟨#[46]⟩ : ByteArray)) ++ t238)) else (none)) = some r := H
                        have A19 := Aside0.mk A190
                        clear A190
                        by_cases c20 : t232.size + 1 + t233.size + 1 + t234.size + 1 + t235.size + 1 + t236.size + 1 + t237.size + 1 + t238.size ≤ 9223372036854775807
                        · rw [if_pos c20] at H
                          have c20b0 := eq_true c20
                          have c20b1 : decide (t232.size + 1 + t233.size + 1 + t234.size + 1 + t235.size + 1 + t236.size + 1 + t237.size + 1 + t238.size ≤ 9223372036854775807) = true := decide_eq_true c20
                          try have c20b2 : (9223372036854775807 < t232.size + 1 + t233.size + 1 + t234.size + 1 + t235.size + 1 + t236.size + 1 + t237.size + 1 + t238.size) = False := eq_false (Nat.not_lt.2 c20)
                          obtain rfl := Option.some.inj H
                          go_enter Try.func31, Try.ntmps31
                          try go_wp2_with (first | ((with_reducible refine gate_dst (N := 1) rfl ?_); refine box_event ?hg (N := 1) ?hd (cs := #[.int .i64 a0_0, .int .i64 a0_1, .int .i64 a0_2, .int .i64 a0_3, .int .i64 a0_4, .int .i64 a0_5, .int .i64 a0_6]) (t := 47) ?hr ?_; (case hd => rfl); (case hg => rfl); (case hr => first | (go_simp; done) | (go_simp; rfl)); intro gb231 hg w21 hbox hb; have n0_ := Aside0.mk (below_step (by repeat (first | (with_reducible first | exact HB.out | apply below_alloc | apply pw_below_drewN | apply below_drew1) | exact HB.out)) hb); have n1_ := Aside0.mk (hbox); have n2_ := Aside0.mk ((by rw [hg]; exact (below_size (by repeat (first | (with_reducible first | exact HB.out | apply below_alloc | apply pw_below_drewN | apply below_drew1) | exact HB.out))) : w.heap.size ≤ gb231)); have n3_ := Aside0.mk ((by rw [hg]; exact (below_size (by repeat (first | (with_reducible first | exact HB.out | apply below_alloc | apply pw_below_drewN | apply below_drew1) | exact HB.out))) : w.heap.size ≤ gb231)); clear HB; have HB := n0_; have BK231 := n1_; have GW231 := n2_; have GE231 := n3_; clear n0_ n1_ n2_ n3_; clear hb hbox hg))
                          have n0_ := Aside0.mk (blk_drew BK231.out)
                          have n1_ := Aside0.mk (below_drew1 HB.out)
                          clear BK231
                          clear HB
                          have BK231 := n0_
                          have HB := n1_
                          clear n0_ n1_
                          refine start_ (n := 34) (S := fun w' => w'.cell? ⟨gb231, 0, none⟩ = some (.int .i64 a0_0) ∧ w'.cell? ⟨gb231, 1, none⟩ = some (.int .i64 a0_1) ∧ w'.cell? ⟨gb231, 2, none⟩ = some (.int .i64 a0_2) ∧ w'.cell? ⟨gb231, 3, none⟩ = some (.int .i64 a0_3) ∧ w'.cell? ⟨gb231, 4, none⟩ = some (.int .i64 a0_4) ∧ w'.cell? ⟨gb231, 5, none⟩ = some (.int .i64 a0_5) ∧ w'.cell? ⟨gb231, 6, none⟩ = some (.int .i64 a0_6)) (ds := []) #[false, false, false, false, false, false, false, false, false, false, false, false, false, false, false, false, false, false, false, false, false, false, false, false, false, false, false, false, false, false, false, false, false, false] (by kernel_rfl) rfl rfl ⟨(blk_cell BK231.out 0).trans rfl, (blk_cell BK231.out 1).trans rfl, (blk_cell BK231.out 2).trans rfl, (blk_cell BK231.out 3).trans rfl, (blk_cell BK231.out 4).trans rfl, (blk_cell BK231.out 5).trans rfl, (blk_cell BK231.out 6).trans rfl⟩ (fun hHeld => ?_); refine with_tabW logbookref34_Text.tab1 logbookref34_Text.bits1 (fun HT_ HW_ => ?_)
                          generalize w21.drew = w22 at BK231 HB hHeld ⊢
                          refine pure_ (i := 0) (N := some 3) (v := ?_) (a' := ?_) #[true, false, false, false, false, false, false, false, false, false, false, false, false, false, false, false, false, false, false, false, false, false, false, false, false, false, false, false, false, false, false, false, false, false] rfl rfl (any_of HT_.out (by kernel_rfl)) (fun _ _ _ h => h) (Or.inl ⟨by rfl, ?_⟩) ?_ ?_
                          rotate_left
                          · intro w'
                            go_simp
                            with_reducible rfl
                          rotate_left
                          · simp only [Act.put, List.setIfInBounds_toArray, List.set_cons_zero, List.set_cons_succ, i64_w, i32_w]
                            rfl
                          refine pure_ (i := 4) (N := some 7) (v := ?_) (a' := ?_) #[true, false, false, false, true, false, false, false, false, false, false, false, false, false, false, false, false, false, false, false, false, false, false, false, false, false, false, false, false, false, false, false, false, false] rfl rfl (any_of HT_.out (by kernel_rfl)) (fun _ _ _ h => h) (Or.inl ⟨by rfl, ?_⟩) ?_ ?_
                          rotate_left
                          · intro w'
                            go_simp
                            with_reducible rfl
                          rotate_left
                          · simp only [Act.put, List.setIfInBounds_toArray, List.set_cons_zero, List.set_cons_succ, i64_w, i32_w]
                            rfl
                          refine pure_ (i := 9) (N := some 12) (v := ?_) (a' := ?_) #[true, false, false, false, true, false, false, false, false, true, false, false, false, false, false, false, false, false, false, false, false, false, false, false, false, false, false, false, false, false, false, false, false, false] rfl rfl (any_of HT_.out (by kernel_rfl)) (fun _ _ _ h => h) (Or.inl ⟨by rfl, ?_⟩) ?_ ?_
                          rotate_left
                          · intro w'
                            go_simp
                            with_reducible rfl
                          rotate_left
                          · simp only [Act.put, List.setIfInBounds_toArray, List.set_cons_zero, List.set_cons_succ, i64_w, i32_w]
                            rfl
                          refine pure_ (i := 14) (N := some 17) (v := ?_) (a' := ?_) #[true, false, false, false, true, false, false, false, false, true, false, false, false, false, true, false, false, false, false, false, false, false, false, false, false, false, false, false, false, false, false, false, false, false] rfl rfl (any_of HT_.out (by kernel_rfl)) (fun _ _ _ h => h) (Or.inl ⟨by rfl, ?_⟩) ?_ ?_
                          rotate_left
                          · intro w'
                            go_simp
                            with_reducible rfl
                          rotate_left
                          · simp only [Act.put, List.setIfInBounds_toArray, List.set_cons_zero, List.set_cons_succ, i64_w, i32_w]
                            rfl
                          refine pure_ (i := 19) (N := some 22) (v := ?_) (a' := ?_) #[true, false, false, false, true, false, false, false, false, true, false, false, false, false, true, false, false, false, false, true, false, false, false, false, false, false, false, false, false, false, false, false, false, false] rfl rfl (any_of HT_.out (by kernel_rfl)) (fun _ _ _ h => h) (Or.inl ⟨by rfl, ?_⟩) ?_ ?_
                          rotate_left
                          · intro w'
                            go_simp
                            with_reducible rfl
                          rotate_left
                          · simp only [Act.put, List.setIfInBounds_toArray, List.set_cons_zero, List.set_cons_succ, i64_w, i32_w]
                            rfl
                          refine pure_ (i := 24) (N := some 27) (v := ?_) (a' := ?_) #[true, false, false, false, true, false, false, false, false, true, false, false, false, false, true, false, false, false, false, true, false, false, false, false, true, false, false, false, false, false, false, false, false, false] rfl rfl (any_of HT_.out (by kernel_rfl)) (fun _ _ _ h => h) (Or.inl ⟨by rfl, ?_⟩) ?_ ?_
                          rotate_left
                          · intro w'
                            go_simp
                            with_reducible rfl
                          rotate_left
                          · simp only [Act.put, List.setIfInBounds_toArray, List.set_cons_zero, List.set_cons_succ, i64_w, i32_w]
                            rfl
                          refine pure_ (i := 29) (N := some 32) (v := ?_) (a' := ?_) #[true, false, false, false, true, false, false, false, false, true, false, false, false, false, true, false, false, false, false, true, false, false, false, false, true, false, false, false, false, true, false, false, false, false] rfl rfl (any_of HT_.out (by kernel_rfl)) (fun _ _ _ h => h) (Or.inl ⟨by rfl, ?_⟩) ?_ ?_
                          rotate_left
                          · intro w'
                            go_simp
                            with_reducible rfl
                          rotate_left
                          · simp only [Act.put, List.setIfInBounds_toArray, List.set_cons_zero, List.set_cons_succ, i64_w, i32_w]
                            rfl
                          refine take_ (i := 1) (N := some 4) (v := ?_) (a' := ?_) #[true, true, false, false, true, false, false, false, false, true, false, false, false, false, true, false, false, false, false, true, false, false, false, false, true, false, false, false, false, true, false, false, false, false] rfl rfl (take_ofW HT_.out HW_.out (by kernel_rfl)) (fun _ _ _ h => h) (Or.inl ⟨by rfl, ?_⟩) hHeld ?_ ?_
                          rotate_left
                          · rintro w' ⟨s0, s1, s2, s3, s4, s5, s6⟩
                            go_simp
                            with_reducible rfl
                          rotate_left
                          · simp only [Act.put, List.setIfInBounds_toArray, List.set_cons_zero, List.set_cons_succ, i64_w, i32_w]
                            rfl
                          refine take_ (i := 5) (N := some 8) (v := ?_) (a' := ?_) #[true, true, false, false, true, true, false, false, false, true, false, false, false, false, true, false, false, false, false, true, false, false, false, false, true, false, false, false, false, true, false, false, false, false] rfl rfl (take_ofW HT_.out HW_.out (by kernel_rfl)) (fun _ _ _ h => h) (Or.inl ⟨by rfl, ?_⟩) hHeld ?_ ?_
                          rotate_left
                          · rintro w' ⟨s0, s1, s2, s3, s4, s5, s6⟩
                            go_simp
                            with_reducible rfl
                          rotate_left
                          · simp only [Act.put, List.setIfInBounds_toArray, List.set_cons_zero, List.set_cons_succ, i64_w, i32_w]
                            rfl
                          refine take_ (i := 10) (N := some 13) (v := ?_) (a' := ?_) #[true, true, false, false, true, true, false, false, false, true, true, false, false, false, true, false, false, false, false, true, false, false, false, false, true, false, false, false, false, true, false, false, false, false] rfl rfl (take_ofW HT_.out HW_.out (by kernel_rfl)) (fun _ _ _ h => h) (Or.inl ⟨by rfl, ?_⟩) hHeld ?_ ?_
                          rotate_left
                          · rintro w' ⟨s0, s1, s2, s3, s4, s5, s6⟩
                            go_simp
                            with_reducible rfl
                          rotate_left
                          · simp only [Act.put, List.setIfInBounds_toArray, List.set_cons_zero, List.set_cons_succ, i64_w, i32_w]
                            rfl
                          refine take_ (i := 15) (N := some 18) (v := ?_) (a' := ?_) #[true, true, false, false, true, true, false, false, false, true, true, false, false, false, true, true, false, false, false, true, false, false, false, false, true, false, false, false, false, true, false, false, false, false] rfl rfl (take_ofW HT_.out HW_.out (by kernel_rfl)) (fun _ _ _ h => h) (Or.inl ⟨by rfl, ?_⟩) hHeld ?_ ?_
                          rotate_left
                          · rintro w' ⟨s0, s1, s2, s3, s4, s5, s6⟩
                            go_simp
                            with_reducible rfl
                          rotate_left
                          · simp only [Act.put, List.setIfInBounds_toArray, List.set_cons_zero, List.set_cons_succ, i64_w, i32_w]
                            rfl
                          refine take_ (i := 20) (N := some 23) (v := ?_) (a' := ?_) #[true, true, false, false, true, true, false, false, false, true, true, false, false, false, true, true, false, false, false, true, true, false, false, false, true, false, false, false, false, true, false, false, false, false] rfl rfl (take_ofW HT_.out HW_.out (by kernel_rfl)) (fun _ _ _ h => h) (Or.inl ⟨by rfl, ?_⟩) hHeld ?_ ?_
                          rotate_left
                          · rintro w' ⟨s0, s1, s2, s3, s4, s5, s6⟩
                            go_simp
                            with_reducible rfl
                          rotate_left
                          · simp only [Act.put, List.setIfInBounds_toArray, List.set_cons_zero, List.set_cons_succ, i64_w, i32_w]
                            rfl
                          refine take_ (i := 25) (N := some 28) (v := ?_) (a' := ?_) #[true, true, false, false, true, true, false, false, false, true, true, false, false, false, true, true, false, false, false, true, true, false, false, false, true, true, false, false, false, true, false, false, false, false] rfl rfl (take_ofW HT_.out HW_.out (by kernel_rfl)) (fun _ _ _ h => h) (Or.inl ⟨by rfl, ?_⟩) hHeld ?_ ?_
                          rotate_left
                          · rintro w' ⟨s0, s1, s2, s3, s4, s5, s6⟩
                            go_simp
                            with_reducible rfl
                          rotate_left
                          · simp only [Act.put, List.setIfInBounds_toArray, List.set_cons_zero, List.set_cons_succ, i64_w, i32_w]
                            rfl
                          refine take_ (i := 30) (N := some 33) (v := ?_) (a' := ?_) #[true, true, false, false, true, true, false, false, false, true, true, false, false, false, true, true, false, false, false, true, true, false, false, false, true, true, false, false, false, true, true, false, false, false] rfl rfl (take_ofW HT_.out HW_.out (by kernel_rfl)) (fun _ _ _ h => h) (Or.inl ⟨by rfl, ?_⟩) hHeld ?_ ?_
                          rotate_left
                          · rintro w' ⟨s0, s1, s2, s3, s4, s5, s6⟩
                            go_simp
                            with_reducible rfl
                          rotate_left
                          · simp only [Act.put, List.setIfInBounds_toArray, List.set_cons_zero, List.set_cons_succ, i64_w, i32_w]
                            rfl
                          refine one_ (i := 2) (N := some 5) #[true, true, true, false, true, true, false, false, false, true, true, false, false, false, true, true, false, false, false, true, true, false, false, false, true, true, false, false, false, true, true, false, false, false] rfl rfl (one_of HT_.out (by kernel_rfl)) (by decide) (fun K hK => ?_)
                          refine goes_ Try.func48 (by kernel_rfl) rfl #[.int .i64 a0_0, .int .i64 4] (by rfl) rfl rfl (by (try simp only [List.map_toArray, List.map_cons, List.map_nil]); first | done | rfl | (simp only [List.length_drop, List.length_take]; rfl)) ?_
                          with_reducible refine (logbookref34_two.calls k a0_0 4 t232 _ A2.out).mono ?_
                          rintro e w23 ⟨rfl, hb⟩
                          refine ⟨_, rfl, ?_⟩
                          have n0_ := Aside0.mk (blk_below (g := gb231) (o := .cells #[.int .i64 a0_0, .int .i64 a0_1, .int .i64 a0_2, .int .i64 a0_3, .int .i64 a0_4, .int .i64 a0_5, .int .i64 a0_6] 47 (0, 0)) (by (with_reducible repeat (first | refine blk_drewN ?_ _ | refine blk_drew ?_ | refine blk_alloc ?_ _)); exact BK231.out) hb)
                          have n1_ := Aside0.mk (below_step (by repeat (first | (with_reducible first | exact HB.out | apply below_alloc | apply pw_below_drewN | apply below_drew1 | refine below_set ?_ GE231.out) | exact HB.out)) hb)
                          clear BK231
                          clear HB
                          have BK231 := n0_
                          have HB := n1_
                          clear n0_ n1_
                          (try clear hb)
                          (try clear hb2)
                          (try clear hk)
                          (try clear hi)
                          refine hK.out _ _ ⟨(blk_cell BK231.out 0).trans rfl, (blk_cell BK231.out 1).trans rfl, (blk_cell BK231.out 2).trans rfl, (blk_cell BK231.out 3).trans rfl, (blk_cell BK231.out 4).trans rfl, (blk_cell BK231.out 5).trans rfl, (blk_cell BK231.out 6).trans rfl⟩ (fun hHeld => ?_)
                          clear hK K
                          refine norm_ (a' := ?_) ?_ ?_
                          rotate_left
                          · show Act.put _ (some 5) _ = _
                            simp only [Act.put, List.setIfInBounds_toArray, List.set_cons_zero, List.set_cons_succ, i64_w, i32_w]
                            rfl
                          refine pure_ (i := 3) (N := some 6) (v := ?_) (a' := ?_) #[true, true, true, true, true, true, false, false, false, true, true, false, false, false, true, true, false, false, false, true, true, false, false, false, true, true, false, false, false, true, true, false, false, false] rfl rfl (any_of HT_.out (by kernel_rfl)) (fun _ _ _ h => h) (Or.inl ⟨by rfl, ?_⟩) ?_ ?_
                          rotate_left
                          · intro w'
                            go_simp
                            with_reducible rfl
                          rotate_left
                          · simp only [Act.put, List.setIfInBounds_toArray, List.set_cons_zero, List.set_cons_succ, i64_w, i32_w]
                            rfl
                          refine one_ (i := 6) (N := some 9) #[true, true, true, true, true, true, true, false, false, true, true, false, false, false, true, true, false, false, false, true, true, false, false, false, true, true, false, false, false, true, true, false, false, false] rfl rfl (one_of HT_.out (by kernel_rfl)) (by decide) (fun K hK => ?_)
                          refine goes_ Try.func48 (by kernel_rfl) rfl #[.int .i64 a0_1, .int .i64 2] (by rfl) rfl rfl (by (try simp only [List.map_toArray, List.map_cons, List.map_nil]); first | done | rfl | (simp only [List.length_drop, List.length_take]; rfl)) ?_
                          with_reducible refine (logbookref34_two.calls k a0_1 2 t233 _ A4.out).mono ?_
                          rintro e w24 ⟨rfl, hb⟩
                          refine ⟨_, rfl, ?_⟩
                          have n0_ := Aside0.mk (blk_below (g := gb231) (o := .cells #[.int .i64 a0_0, .int .i64 a0_1, .int .i64 a0_2, .int .i64 a0_3, .int .i64 a0_4, .int .i64 a0_5, .int .i64 a0_6] 47 (0, 0)) (by (with_reducible repeat (first | refine blk_drewN ?_ _ | refine blk_drew ?_ | refine blk_alloc ?_ _)); exact BK231.out) hb)
                          have n1_ := Aside0.mk (below_step (by repeat (first | (with_reducible first | exact HB.out | apply below_alloc | apply pw_below_drewN | apply below_drew1 | refine below_set ?_ GE231.out) | exact HB.out)) hb)
                          clear BK231
                          clear HB
                          have BK231 := n0_
                          have HB := n1_
                          clear n0_ n1_
                          (try clear hb)
                          (try clear hb2)
                          (try clear hk)
                          (try clear hi)
                          refine hK.out _ _ ⟨(blk_cell BK231.out 0).trans rfl, (blk_cell BK231.out 1).trans rfl, (blk_cell BK231.out 2).trans rfl, (blk_cell BK231.out 3).trans rfl, (blk_cell BK231.out 4).trans rfl, (blk_cell BK231.out 5).trans rfl, (blk_cell BK231.out 6).trans rfl⟩ (fun hHeld => ?_)
                          clear hK K
                          refine norm_ (a' := ?_) ?_ ?_
                          rotate_left
                          · show Act.put _ (some 9) _ = _
                            simp only [Act.put, List.setIfInBounds_toArray, List.set_cons_zero, List.set_cons_succ, i64_w, i32_w]
                            rfl
                          refine pure_ (i := 7) (N := some 10) (v := ?_) (a' := ?_) #[true, true, true, true, true, true, true, true, false, true, true, false, false, false, true, true, false, false, false, true, true, false, false, false, true, true, false, false, false, true, true, false, false, false] rfl rfl (any_of HT_.out (by kernel_rfl)) (fun _ _ _ h => h) (Or.inl ⟨by rfl, ?_⟩) ?_ ?_
                          rotate_left
                          · intro w'
                            go_simp
                            with_reducible rfl
                          rotate_left
                          · simp only [Act.put, List.setIfInBounds_toArray, List.set_cons_zero, List.set_cons_succ, i64_w, i32_w]
                            rfl
                          refine pure_ (i := 8) (N := some 11) (v := ?_) (a' := ?_) #[true, true, true, true, true, true, true, true, true, true, true, false, false, false, true, true, false, false, false, true, true, false, false, false, true, true, false, false, false, true, true, false, false, false] rfl rfl (any_of HT_.out (by kernel_rfl)) (fun _ _ _ h => h) (Or.inl ⟨by rfl, ?_⟩) ?_ ?_
                          rotate_left
                          · intro w'
                            go_simp
                            with_reducible rfl
                          rotate_left
                          · simp only [Act.put, List.setIfInBounds_toArray, List.set_cons_zero, List.set_cons_succ, i64_w, i32_w]
                            rfl
                          refine one_ (i := 11) (N := some 14) #[true, true, true, true, true, true, true, true, true, true, true, true, false, false, true, true, false, false, false, true, true, false, false, false, true, true, false, false, false, true, true, false, false, false] rfl rfl (one_of HT_.out (by kernel_rfl)) (by decide) (fun K hK => ?_)
                          refine goes_ Try.func48 (by kernel_rfl) rfl #[.int .i64 a0_2, .int .i64 2] (by rfl) rfl rfl (by (try simp only [List.map_toArray, List.map_cons, List.map_nil]); first | done | rfl | (simp only [List.length_drop, List.length_take]; rfl)) ?_
                          with_reducible refine (logbookref34_two.calls k a0_2 2 t234 _ A7.out).mono ?_
                          rintro e w25 ⟨rfl, hb⟩
                          refine ⟨_, rfl, ?_⟩
                          have n0_ := Aside0.mk (blk_below (g := gb231) (o := .cells #[.int .i64 a0_0, .int .i64 a0_1, .int .i64 a0_2, .int .i64 a0_3, .int .i64 a0_4, .int .i64 a0_5, .int .i64 a0_6] 47 (0, 0)) (by (with_reducible repeat (first | refine blk_drewN ?_ _ | refine blk_drew ?_ | refine blk_alloc ?_ _)); exact BK231.out) hb)
                          have n1_ := Aside0.mk (below_step (by repeat (first | (with_reducible first | exact HB.out | apply below_alloc | apply pw_below_drewN | apply below_drew1 | refine below_set ?_ GE231.out) | exact HB.out)) hb)
                          clear BK231
                          clear HB
                          have BK231 := n0_
                          have HB := n1_
                          clear n0_ n1_
                          (try clear hb)
                          (try clear hb2)
                          (try clear hk)
                          (try clear hi)
                          refine hK.out _ _ ⟨(blk_cell BK231.out 0).trans rfl, (blk_cell BK231.out 1).trans rfl, (blk_cell BK231.out 2).trans rfl, (blk_cell BK231.out 3).trans rfl, (blk_cell BK231.out 4).trans rfl, (blk_cell BK231.out 5).trans rfl, (blk_cell BK231.out 6).trans rfl⟩ (fun hHeld => ?_)
                          clear hK K
                          refine norm_ (a' := ?_) ?_ ?_
                          rotate_left
                          · show Act.put _ (some 14) _ = _
                            simp only [Act.put, List.setIfInBounds_toArray, List.set_cons_zero, List.set_cons_succ, i64_w, i32_w]
                            rfl
                          refine pure_ (i := 12) (N := some 15) (v := ?_) (a' := ?_) #[true, true, true, true, true, true, true, true, true, true, true, true, true, false, true, true, false, false, false, true, true, false, false, false, true, true, false, false, false, true, true, false, false, false] rfl rfl (any_of HT_.out (by kernel_rfl)) (fun _ _ _ h => h) (Or.inl ⟨by rfl, ?_⟩) ?_ ?_
                          rotate_left
                          · intro w'
                            go_simp
                            with_reducible rfl
                          rotate_left
                          · simp only [Act.put, List.setIfInBounds_toArray, List.set_cons_zero, List.set_cons_succ, i64_w, i32_w]
                            rfl
                          refine pure_ (i := 13) (N := some 16) (v := ?_) (a' := ?_) #[true, true, true, true, true, true, true, true, true, true, true, true, true, true, true, true, false, false, false, true, true, false, false, false, true, true, false, false, false, true, true, false, false, false] rfl rfl (any_of HT_.out (by kernel_rfl)) (fun _ _ _ h => h) (Or.inl ⟨by rfl, ?_⟩) ?_ ?_
                          rotate_left
                          · intro w'
                            go_simp
                            with_reducible rfl
                          rotate_left
                          · simp only [Act.put, List.setIfInBounds_toArray, List.set_cons_zero, List.set_cons_succ, i64_w, i32_w]
                            rfl
                          refine one_ (i := 16) (N := some 19) #[true, true, true, true, true, true, true, true, true, true, true, true, true, true, true, true, true, false, false, true, true, false, false, false, true, true, false, false, false, true, true, false, false, false] rfl rfl (one_of HT_.out (by kernel_rfl)) (by decide) (fun K hK => ?_)
                          refine goes_ Try.func48 (by kernel_rfl) rfl #[.int .i64 a0_3, .int .i64 2] (by rfl) rfl rfl (by (try simp only [List.map_toArray, List.map_cons, List.map_nil]); first | done | rfl | (simp only [List.length_drop, List.length_take]; rfl)) ?_
                          with_reducible refine (logbookref34_two.calls k a0_3 2 t235 _ A10.out).mono ?_
                          rintro e w26 ⟨rfl, hb⟩
                          refine ⟨_, rfl, ?_⟩
                          have n0_ := Aside0.mk (blk_below (g := gb231) (o := .cells #[.int .i64 a0_0, .int .i64 a0_1, .int .i64 a0_2, .int .i64 a0_3, .int .i64 a0_4, .int .i64 a0_5, .int .i64 a0_6] 47 (0, 0)) (by (with_reducible repeat (first | refine blk_drewN ?_ _ | refine blk_drew ?_ | refine blk_alloc ?_ _)); exact BK231.out) hb)
                          have n1_ := Aside0.mk (below_step (by repeat (first | (with_reducible first | exact HB.out | apply below_alloc | apply pw_below_drewN | apply below_drew1 | refine below_set ?_ GE231.out) | exact HB.out)) hb)
                          clear BK231
                          clear HB
                          have BK231 := n0_
                          have HB := n1_
                          clear n0_ n1_
                          (try clear hb)
                          (try clear hb2)
                          (try clear hk)
                          (try clear hi)
                          refine hK.out _ _ ⟨(blk_cell BK231.out 0).trans rfl, (blk_cell BK231.out 1).trans rfl, (blk_cell BK231.out 2).trans rfl, (blk_cell BK231.out 3).trans rfl, (blk_cell BK231.out 4).trans rfl, (blk_cell BK231.out 5).trans rfl, (blk_cell BK231.out 6).trans rfl⟩ (fun hHeld => ?_)
                          clear hK K
                          refine norm_ (a' := ?_) ?_ ?_
                          rotate_left
                          · show Act.put _ (some 19) _ = _
                            simp only [Act.put, List.setIfInBounds_toArray, List.set_cons_zero, List.set_cons_succ, i64_w, i32_w]
                            rfl
                          refine pure_ (i := 17) (N := some 20) (v := ?_) (a' := ?_) #[true, true, true, true, true, true, true, true, true, true, true, true, true, true, true, true, true, true, false, true, true, false, false, false, true, true, false, false, false, true, true, false, false, false] rfl rfl (any_of HT_.out (by kernel_rfl)) (fun _ _ _ h => h) (Or.inl ⟨by rfl, ?_⟩) ?_ ?_
                          rotate_left
                          · intro w'
                            go_simp
                            with_reducible rfl
                          rotate_left
                          · simp only [Act.put, List.setIfInBounds_toArray, List.set_cons_zero, List.set_cons_succ, i64_w, i32_w]
                            rfl
                          refine pure_ (i := 18) (N := some 21) (v := ?_) (a' := ?_) #[true, true, true, true, true, true, true, true, true, true, true, true, true, true, true, true, true, true, true, true, true, false, false, false, true, true, false, false, false, true, true, false, false, false] rfl rfl (any_of HT_.out (by kernel_rfl)) (fun _ _ _ h => h) (Or.inl ⟨by rfl, ?_⟩) ?_ ?_
                          rotate_left
                          · intro w'
                            go_simp
                            with_reducible rfl
                          rotate_left
                          · simp only [Act.put, List.setIfInBounds_toArray, List.set_cons_zero, List.set_cons_succ, i64_w, i32_w]
                            rfl
                          refine one_ (i := 21) (N := some 24) #[true, true, true, true, true, true, true, true, true, true, true, true, true, true, true, true, true, true, true, true, true, true, false, false, true, true, false, false, false, true, true, false, false, false] rfl rfl (one_of HT_.out (by kernel_rfl)) (by decide) (fun K hK => ?_)
                          refine goes_ Try.func48 (by kernel_rfl) rfl #[.int .i64 a0_4, .int .i64 2] (by rfl) rfl rfl (by (try simp only [List.map_toArray, List.map_cons, List.map_nil]); first | done | rfl | (simp only [List.length_drop, List.length_take]; rfl)) ?_
                          with_reducible refine (logbookref34_two.calls k a0_4 2 t236 _ A13.out).mono ?_
                          rintro e w27 ⟨rfl, hb⟩
                          refine ⟨_, rfl, ?_⟩
                          have n0_ := Aside0.mk (blk_below (g := gb231) (o := .cells #[.int .i64 a0_0, .int .i64 a0_1, .int .i64 a0_2, .int .i64 a0_3, .int .i64 a0_4, .int .i64 a0_5, .int .i64 a0_6] 47 (0, 0)) (by (with_reducible repeat (first | refine blk_drewN ?_ _ | refine blk_drew ?_ | refine blk_alloc ?_ _)); exact BK231.out) hb)
                          have n1_ := Aside0.mk (below_step (by repeat (first | (with_reducible first | exact HB.out | apply below_alloc | apply pw_below_drewN | apply below_drew1 | refine below_set ?_ GE231.out) | exact HB.out)) hb)
                          clear BK231
                          clear HB
                          have BK231 := n0_
                          have HB := n1_
                          clear n0_ n1_
                          (try clear hb)
                          (try clear hb2)
                          (try clear hk)
                          (try clear hi)
                          refine hK.out _ _ ⟨(blk_cell BK231.out 0).trans rfl, (blk_cell BK231.out 1).trans rfl, (blk_cell BK231.out 2).trans rfl, (blk_cell BK231.out 3).trans rfl, (blk_cell BK231.out 4).trans rfl, (blk_cell BK231.out 5).trans rfl, (blk_cell BK231.out 6).trans rfl⟩ (fun hHeld => ?_)
                          clear hK K
                          refine norm_ (a' := ?_) ?_ ?_
                          rotate_left
                          · show Act.put _ (some 24) _ = _
                            simp only [Act.put, List.setIfInBounds_toArray, List.set_cons_zero, List.set_cons_succ, i64_w, i32_w]
                            rfl
                          refine pure_ (i := 22) (N := some 25) (v := ?_) (a' := ?_) #[true, true, true, true, true, true, true, true, true, true, true, true, true, true, true, true, true, true, true, true, true, true, true, false, true, true, false, false, false, true, true, false, false, false] rfl rfl (any_of HT_.out (by kernel_rfl)) (fun _ _ _ h => h) (Or.inl ⟨by rfl, ?_⟩) ?_ ?_
                          rotate_left
                          · intro w'
                            go_simp
                            with_reducible rfl
                          rotate_left
                          · simp only [Act.put, List.setIfInBounds_toArray, List.set_cons_zero, List.set_cons_succ, i64_w, i32_w]
                            rfl
                          refine pure_ (i := 23) (N := some 26) (v := ?_) (a' := ?_) #[true, true, true, true, true, true, true, true, true, true, true, true, true, true, true, true, true, true, true, true, true, true, true, true, true, true, false, false, false, true, true, false, false, false] rfl rfl (any_of HT_.out (by kernel_rfl)) (fun _ _ _ h => h) (Or.inl ⟨by rfl, ?_⟩) ?_ ?_
                          rotate_left
                          · intro w'
                            go_simp
                            with_reducible rfl
                          rotate_left
                          · simp only [Act.put, List.setIfInBounds_toArray, List.set_cons_zero, List.set_cons_succ, i64_w, i32_w]
                            rfl
                          refine one_ (i := 26) (N := some 29) #[true, true, true, true, true, true, true, true, true, true, true, true, true, true, true, true, true, true, true, true, true, true, true, true, true, true, true, false, false, true, true, false, false, false] rfl rfl (one_of HT_.out (by kernel_rfl)) (by decide) (fun K hK => ?_)
                          refine goes_ Try.func48 (by kernel_rfl) rfl #[.int .i64 a0_5, .int .i64 2] (by rfl) rfl rfl (by (try simp only [List.map_toArray, List.map_cons, List.map_nil]); first | done | rfl | (simp only [List.length_drop, List.length_take]; rfl)) ?_
                          with_reducible refine (logbookref34_two.calls k a0_5 2 t237 _ A16.out).mono ?_
                          rintro e w28 ⟨rfl, hb⟩
                          refine ⟨_, rfl, ?_⟩
                          have n0_ := Aside0.mk (blk_below (g := gb231) (o := .cells #[.int .i64 a0_0, .int .i64 a0_1, .int .i64 a0_2, .int .i64 a0_3, .int .i64 a0_4, .int .i64 a0_5, .int .i64 a0_6] 47 (0, 0)) (by (with_reducible repeat (first | refine blk_drewN ?_ _ | refine blk_drew ?_ | refine blk_alloc ?_ _)); exact BK231.out) hb)
                          have n1_ := Aside0.mk (below_step (by repeat (first | (with_reducible first | exact HB.out | apply below_alloc | apply pw_below_drewN | apply below_drew1 | refine below_set ?_ GE231.out) | exact HB.out)) hb)
                          clear BK231
                          clear HB
                          have BK231 := n0_
                          have HB := n1_
                          clear n0_ n1_
                          (try clear hb)
                          (try clear hb2)
                          (try clear hk)
                          (try clear hi)
                          refine hK.out _ _ ⟨(blk_cell BK231.out 0).trans rfl, (blk_cell BK231.out 1).trans rfl, (blk_cell BK231.out 2).trans rfl, (blk_cell BK231.out 3).trans rfl, (blk_cell BK231.out 4).trans rfl, (blk_cell BK231.out 5).trans rfl, (blk_cell BK231.out 6).trans rfl⟩ (fun hHeld => ?_)
                          clear hK K
                          refine norm_ (a' := ?_) ?_ ?_
                          rotate_left
                          · show Act.put _ (some 29) _ = _
                            simp only [Act.put, List.setIfInBounds_toArray, List.set_cons_zero, List.set_cons_succ, i64_w, i32_w]
                            rfl
                          refine pure_ (i := 27) (N := some 30) (v := ?_) (a' := ?_) #[true, true, true, true, true, true, true, true, true, true, true, true, true, true, true, true, true, true, true, true, true, true, true, true, true, true, true, true, false, true, true, false, false, false] rfl rfl (any_of HT_.out (by kernel_rfl)) (fun _ _ _ h => h) (Or.inl ⟨by rfl, ?_⟩) ?_ ?_
                          rotate_left
                          · intro w'
                            go_simp
                            with_reducible rfl
                          rotate_left
                          · simp only [Act.put, List.setIfInBounds_toArray, List.set_cons_zero, List.set_cons_succ, i64_w, i32_w]
                            rfl
                          refine pure_ (i := 28) (N := some 31) (v := ?_) (a' := ?_) #[true, true, true, true, true, true, true, true, true, true, true, true, true, true, true, true, true, true, true, true, true, true, true, true, true, true, true, true, true, true, true, false, false, false] rfl rfl (any_of HT_.out (by kernel_rfl)) (fun _ _ _ h => h) (Or.inl ⟨by rfl, ?_⟩) ?_ ?_
                          rotate_left
                          · intro w'
                            go_simp
                            with_reducible rfl
                          rotate_left
                          · simp only [Act.put, List.setIfInBounds_toArray, List.set_cons_zero, List.set_cons_succ, i64_w, i32_w]
                            rfl
                          refine one_ (i := 31) (N := some 34) #[true, true, true, true, true, true, true, true, true, true, true, true, true, true, true, true, true, true, true, true, true, true, true, true, true, true, true, true, true, true, true, true, false, false] rfl rfl (one_of HT_.out (by kernel_rfl)) (by decide) (fun K hK => ?_)
                          refine goes_ Try.func48 (by kernel_rfl) rfl #[.int .i64 a0_6, .int .i64 6] (by rfl) rfl rfl (by (try simp only [List.map_toArray, List.map_cons, List.map_nil]); first | done | rfl | (simp only [List.length_drop, List.length_take]; rfl)) ?_
                          with_reducible refine (logbookref34_two.calls k a0_6 6 t238 _ A19.out).mono ?_
                          rintro e w29 ⟨rfl, hb⟩
                          refine ⟨_, rfl, ?_⟩
                          have n0_ := Aside0.mk (blk_below (g := gb231) (o := .cells #[.int .i64 a0_0, .int .i64 a0_1, .int .i64 a0_2, .int .i64 a0_3, .int .i64 a0_4, .int .i64 a0_5, .int .i64 a0_6] 47 (0, 0)) (by (with_reducible repeat (first | refine blk_drewN ?_ _ | refine blk_drew ?_ | refine blk_alloc ?_ _)); exact BK231.out) hb)
                          have n1_ := Aside0.mk (below_step (by repeat (first | (with_reducible first | exact HB.out | apply below_alloc | apply pw_below_drewN | apply below_drew1 | refine below_set ?_ GE231.out) | exact HB.out)) hb)
                          clear BK231
                          clear HB
                          have BK231 := n0_
                          have HB := n1_
                          clear n0_ n1_
                          (try clear hb)
                          (try clear hb2)
                          (try clear hk)
                          (try clear hi)
                          refine hK.out _ _ ⟨(blk_cell BK231.out 0).trans rfl, (blk_cell BK231.out 1).trans rfl, (blk_cell BK231.out 2).trans rfl, (blk_cell BK231.out 3).trans rfl, (blk_cell BK231.out 4).trans rfl, (blk_cell BK231.out 5).trans rfl, (blk_cell BK231.out 6).trans rfl⟩ (fun hHeld => ?_)
                          clear hK K
                          refine norm_ (a' := ?_) ?_ ?_
                          rotate_left
                          · show Act.put _ (some 34) _ = _
                            simp only [Act.put, List.setIfInBounds_toArray, List.set_cons_zero, List.set_cons_succ, i64_w, i32_w]
                            rfl
                          refine pure_ (i := 32) (N := some 35) (v := ?_) (a' := ?_) #[true, true, true, true, true, true, true, true, true, true, true, true, true, true, true, true, true, true, true, true, true, true, true, true, true, true, true, true, true, true, true, true, true, false] rfl rfl (any_of HT_.out (by kernel_rfl)) (fun _ _ _ h => h) (Or.inl ⟨by rfl, ?_⟩) ?_ ?_
                          rotate_left
                          · intro w'
                            go_simp
                            with_reducible rfl
                          rotate_left
                          · simp only [Act.put, List.setIfInBounds_toArray, List.set_cons_zero, List.set_cons_succ, i64_w, i32_w]
                            rfl
                          refine pure_ (i := 33) (N := some 2) (v := ?_) (a' := ?_) #[true, true, true, true, true, true, true, true, true, true, true, true, true, true, true, true, true, true, true, true, true, true, true, true, true, true, true, true, true, true, true, true, true, true] rfl rfl (any_of HT_.out (by kernel_rfl)) (fun _ _ _ h => h) (Or.inl ⟨by rfl, ?_⟩) ?_ ?_
                          rotate_left
                          · intro w'
                            go_simp
                            with_reducible rfl
                          rotate_left
                          · simp only [Act.put, List.setIfInBounds_toArray, List.set_cons_zero, List.set_cons_succ, i64_w, i32_w]
                            rfl
                          refine done_ (done_of HT_.out (by kernel_rfl)) ?_
                          try go_wp2
                          go_ret
                          exact ⟨by first | rfl | (simp [errW_none, errW_some] <;> rfl) | (simp [*, errW_none, errW_some] <;> rfl), by repeat (first | (with_reducible first | exact HB.out | apply below_alloc | apply pw_below_drewN | apply below_drew1 | refine below_set ?_ GE231.out) | exact HB.out)⟩
                        · rw [if_neg c20] at H
                          exact absurd H (by simp)
                      · rw [if_neg c18] at H
                        exact absurd H (by simp)
                    · rw [if_neg c17] at H
                      exact absurd H (by simp)
                  · rw [if_neg c15] at H
                    exact absurd H (by simp)
                · rw [if_neg c14] at H
                  exact absurd H (by simp)
              · rw [if_neg c12] at H
                exact absurd H (by simp)
            · rw [if_neg c11] at H
              exact absurd H (by simp)
          · rw [if_neg c9] at H
            exact absurd H (by simp)
        · rw [if_neg c8] at H
          exact absurd H (by simp)
      · rw [if_neg c6] at H
        exact absurd H (by simp)
    · rw [if_neg c5] at H
      exact absurd H (by simp)
  · rw [if_neg c3] at H
    exact absurd H (by simp)

/-! ### logbookref22_Hex: function 44 -/
def logbookref22_Hex.l0 : Nat → Int → ByteArray → Int → Option (ByteArray)
  | 0, _, _, _ => none
  | k + 1, x0, x3, x4 => if x4 < 16 then (if ((Int.tmod x0 16) % 256) > 9 then ((some (([(97 + ((((Int.tmod x0 16) % 256) - 10) % 256)) % 256] : List Int) : List Int)).bind fun y239 => (if (strOfNums y239).size + x3.size ≤ 9223372036854775807 then (logbookref22_Hex.l0 k (IntKind.u64.wrap (Int.tdiv x0 16)) ((strOfNums y239) ++ x3) (wrap64 (x4 + 1))) else (none))) else ((some (([(48 + ((Int.tmod x0 16) % 256)) % 256] : List Int) : List Int)).bind fun y242 => (if (strOfNums y242).size + x3.size ≤ 9223372036854775807 then (logbookref22_Hex.l0 k (IntKind.u64.wrap (Int.tdiv x0 16)) ((strOfNums y242) ++ x3) (wrap64 (x4 + 1))) else (none)))) else (some x3)
def logbookref22_Hex.f (k : Nat) (a0 : Int) : Option (ByteArray) := logbookref22_Hex.l0 k a0 (⟨#[]⟩ : ByteArray) 0
theorem logbookref22_Hex.mono_l : ∀ k, (∀ y0 y1 y2, LeO (logbookref22_Hex.l0 k y0 y1 y2) (logbookref22_Hex.l0 (k + 1) y0 y1 y2))
  | 0 => fun _ _ _ r h => by simp [logbookref22_Hex.l0] at h
  | k + 1 => by
    have ih0 := logbookref22_Hex.mono_l k
    · intro y0 y1 y2
      unfold logbookref22_Hex.l0
      repeat' first
      | (with_reducible exact ih0 _ _ _)
      | (with_reducible exact LeO.refl _)
      | (with_reducible exact LeO.none _)
      | (with_reducible refine LeO.ite ?_ ?_)
      | (with_reducible refine LeO.bind ?_ (fun _ => ?_))
      | exact ih0 _ _ _
      | exact LeO.none _
      | refine LeO.ite ?_ ?_
      | refine LeO.bind ?_ (fun _ => ?_)
theorem logbookref22_Hex.mono : ∀ a0 k, LeO (logbookref22_Hex.f k a0) (logbookref22_Hex.f (k + 1) a0) := by
  intro a0 k
  have ih0 := logbookref22_Hex.mono_l k
  unfold logbookref22_Hex.f
  repeat' first
      | (with_reducible exact ih0 _ _ _)
      | (with_reducible exact LeO.refl _)
      | (with_reducible exact LeO.none _)
      | (with_reducible refine LeO.ite ?_ ?_)
      | (with_reducible refine LeO.bind ?_ (fun _ => ?_))
      | exact ih0 _ _ _
      | exact LeO.none _
      | refine LeO.ite ?_ ?_
      | refine LeO.bind ?_ (fun _ => ?_)
set_option maxHeartbeats 8000000 in
set_option maxRecDepth 100000 in
theorem logbookref22_Hex.calls (k : Nat) (a0 : Int) (r : ByteArray) (w : World) (h : logbookref22_Hex.f k a0 = some r) :
    Calls Try.prog 44 #[.int .u64 a0] w fun e w' => e = .returned (.string r) ∧ Below w.heap.size w w' := by
  have HB := Aside0.mk (Below.refl w.heap.size w)
  have H : (logbookref22_Hex.l0 k a0 (⟨#[]⟩ : ByteArray) 0) = some r := h
  clear h
  have H' := Aside0.mk H
  clear H
  go_enter Try.func44, Try.ntmps44
  go_wp2
  go_loopg [0, 3, 4] k (fun kq v0 v3 v4 w' => ∃ (x0_1 : Int) (x3_1 : ByteArray) (x4_1 : Int), v0 = .int .u64 x0_1 ∧ v3 = .string x3_1 ∧ v4 = .int .i64 x4_1 ∧ Aside0 (logbookref22_Hex.l0 kq x0_1 x3_1 x4_1 = some r) ∧ Aside0 (kq ≤ k) ∧ Aside0 (Below w.heap.size w w'))
  case atStart => exact ⟨(a0), ((⟨#[]⟩ : ByteArray)), (0), (by first | rfl | (simp; done) | (simp [*]; done) | exact isEmpty_bne _), (by first | rfl | (simp; done) | (simp [*]; done) | exact isEmpty_bne _), (by first | rfl | (simp; done) | (simp [*]; done) | exact isEmpty_bne _), H', ⟨Nat.le_refl _⟩, ⟨by repeat (first | (with_reducible first | exact HB.out | apply below_alloc | apply pw_below_drewN | apply below_drew1) | exact HB.out)⟩⟩
  case round =>
    clear H'
    obtain ⟨x0_1, x3_1, x4_1, rfl, rfl, rfl, HA, HK1, HB⟩ := hrel
    cases gk with
    | zero => exact absurd HA.out (by simp [logbookref22_Hex.l0])
    | succ k1 =>
      have H := HA.out
      clear HA
      simp only [logbookref22_Hex.l0] at H
      by_cases c2 : x4_1 < 16
      · rw [if_pos c2] at H
        have c2b0 : decide (x4_1 < 16) = true := decide_eq_true c2
        clear c2
        by_cases c3 : ((Int.tmod x0_1 16) % 256) > 9
        · rw [if_pos c3] at H
          have c3b0 : decide (9 < ((Int.tmod x0_1 16) % 256)) = true := decide_eq_true c3
          clear c3
          obtain ⟨y239, hy239⟩ : ∃ y_ : List Int, y_ = (([(97 + ((((Int.tmod x0_1 16) % 256) - 10) % 256)) % 256] : List Int)) := ⟨_, rfl⟩
          replace H : (if (strOfNums y239).size + x3_1.size ≤ 9223372036854775807 then (logbookref22_Hex.l0 k1 (IntKind.u64.wrap (Int.tdiv x0_1 16)) ((strOfNums y239) ++ x3_1) (wrap64 (x4_1 + 1))) else (none)) = some r := by first | (rw [hy239]; with_reducible exact H) | (have H2_ := (Option.bind_some _ _).symm.trans H; rw [hy239]; with_reducible exact H2_) | (have H2_ := (Option.bind_some _ _).symm.trans H; with_reducible exact H2_) | with_reducible exact H | (rw [hy239]; exact H) | exact H
          have Ny239 := Aside0.mk hy239
          clear hy239
          by_cases c4 : (strOfNums y239).size + x3_1.size ≤ 9223372036854775807
          · rw [if_pos c4] at H
            have c4b0 := eq_true c4
            have c4b1 : decide ((strOfNums y239).size + x3_1.size ≤ 9223372036854775807) = true := decide_eq_true c4
            try have c4b2 : (9223372036854775807 < (strOfNums y239).size + x3_1.size) = False := eq_false (Nat.not_lt.2 c4)
            have H' := Aside0.mk H
            clear H
            go_wp2_with (first | ((with_reducible refine gate_dst (N := 22) rfl ?_); refine Kd.R_lit (Kd.int .u8) _ 5 ?hg (N := 22) ?hd (xs := ([(97 + ((((Int.tmod x0_1 16) % 256) - 10) % 256)) % 256] : List Int)) (inner := [.int .u8 ((97 + ((((Int.tmod x0_1 16) % 256) - 10) % 256)) % 256)]) (ok := fun _ => True) (okp := fun _ => True) ?hr ?hp (fun _ hk => hk) trivial (Below.refl _ _) (Nat.le_refl _) (by simp) ?_; (case hd => rfl); (case hg => rfl); (case hr => first | (go_simp; done) | (go_simp; rfl)); (case hp => exact (Reps.one (show Kd.M (Kd.int .u8) _ _ _ ((97 + ((((Int.tmod x0_1 16) % 256) - 10) % 256)) % 256) [.int .u8 ((97 + ((((Int.tmod x0_1 16) % 256) - 10) % 256)) % 256)] from rfl) (Reps.none _ _))); intro v240 w5 ho6 hb hg_ hnew_; clear hg_ hnew_; (first | rw [← Ny239.out] at ho6 | (simp only [Int.reduceToNat] at ho6; rw [← Ny239.out] at ho6)); have n0_ := Aside0.mk (Kd.R_lower ho6 (below_size (by repeat (first | (with_reducible first | exact HB.out | apply below_alloc | apply pw_below_drewN | apply below_drew1) | exact HB.out)))); have n1_ := Aside0.mk (below_step (by repeat (first | (with_reducible first | exact HB.out | apply below_alloc | apply pw_below_drewN | apply below_drew1) | exact HB.out)) hb); clear HB; have HO241 := n0_; have HB := n1_; clear n0_ n1_; clear hb ho6; have hcv7 := own_string (P := Try.prog) Try.underlying51 Try.underlying5 Try.underlying9 (Kd.own_of_R HO241.out)))
            go_roundg k1
            case measure => have := HK1.out; omega
            case rel => exact ⟨(IntKind.u64.wrap (Int.tdiv x0_1 16)), ((strOfNums y239) ++ x3_1), (wrap64 (x4_1 + 1)), (by first | rfl | (simp; done) | (simp [*]; done) | exact isEmpty_bne _), (by first | rfl | (simp; done) | (simp [*]; done) | exact isEmpty_bne _), (by first | rfl | (simp; done) | (simp [*]; done) | exact isEmpty_bne _), H', ⟨by have := HK1.out; omega⟩, ⟨by repeat (first | (with_reducible first | exact HB.out | apply below_alloc | apply pw_below_drewN | apply below_drew1) | exact HB.out)⟩⟩
          · rw [if_neg c4] at H
            exact absurd H (by simp)
        · rw [if_neg c3] at H
          have c3b0 : decide (9 < ((Int.tmod x0_1 16) % 256)) = false := decide_eq_false c3
          clear c3
          obtain ⟨y242, hy242⟩ : ∃ y_ : List Int, y_ = (([(48 + ((Int.tmod x0_1 16) % 256)) % 256] : List Int)) := ⟨_, rfl⟩
          replace H : (if (strOfNums y242).size + x3_1.size ≤ 9223372036854775807 then (logbookref22_Hex.l0 k1 (IntKind.u64.wrap (Int.tdiv x0_1 16)) ((strOfNums y242) ++ x3_1) (wrap64 (x4_1 + 1))) else (none)) = some r := by first | (rw [hy242]; with_reducible exact H) | (have H2_ := (Option.bind_some _ _).symm.trans H; rw [hy242]; with_reducible exact H2_) | (have H2_ := (Option.bind_some _ _).symm.trans H; with_reducible exact H2_) | with_reducible exact H | (rw [hy242]; exact H) | exact H
          have Ny242 := Aside0.mk hy242
          clear hy242
          by_cases c8 : (strOfNums y242).size + x3_1.size ≤ 9223372036854775807
          · rw [if_pos c8] at H
            have c8b0 := eq_true c8
            have c8b1 : decide ((strOfNums y242).size + x3_1.size ≤ 9223372036854775807) = true := decide_eq_true c8
            try have c8b2 : (9223372036854775807 < (strOfNums y242).size + x3_1.size) = False := eq_false (Nat.not_lt.2 c8)
            have H' := Aside0.mk H
            clear H
            go_wp2_with (first | ((with_reducible refine gate_dst (N := 22) rfl ?_); refine Kd.R_lit (Kd.int .u8) _ 5 ?hg (N := 22) ?hd (xs := ([(48 + ((Int.tmod x0_1 16) % 256)) % 256] : List Int)) (inner := [.int .u8 ((48 + ((Int.tmod x0_1 16) % 256)) % 256)]) (ok := fun _ => True) (okp := fun _ => True) ?hr ?hp (fun _ hk => hk) trivial (Below.refl _ _) (Nat.le_refl _) (by simp) ?_; (case hd => rfl); (case hg => rfl); (case hr => first | (go_simp; done) | (go_simp; rfl)); (case hp => exact (Reps.one (show Kd.M (Kd.int .u8) _ _ _ ((48 + ((Int.tmod x0_1 16) % 256)) % 256) [.int .u8 ((48 + ((Int.tmod x0_1 16) % 256)) % 256)] from rfl) (Reps.none _ _))); intro v243 w9 ho10 hb hg_ hnew_; clear hg_ hnew_; (first | rw [← Ny242.out] at ho10 | (simp only [Int.reduceToNat] at ho10; rw [← Ny242.out] at ho10)); have n0_ := Aside0.mk (Kd.R_lower ho10 (below_size (by repeat (first | (with_reducible first | exact HB.out | apply below_alloc | apply pw_below_drewN | apply below_drew1) | exact HB.out)))); have n1_ := Aside0.mk (below_step (by repeat (first | (with_reducible first | exact HB.out | apply below_alloc | apply pw_below_drewN | apply below_drew1) | exact HB.out)) hb); clear HB; have HO244 := n0_; have HB := n1_; clear n0_ n1_; clear hb ho10; have hcv11 := own_string (P := Try.prog) Try.underlying51 Try.underlying5 Try.underlying9 (Kd.own_of_R HO244.out)))
            go_roundg k1
            case measure => have := HK1.out; omega
            case rel => exact ⟨(IntKind.u64.wrap (Int.tdiv x0_1 16)), ((strOfNums y242) ++ x3_1), (wrap64 (x4_1 + 1)), (by first | rfl | (simp; done) | (simp [*]; done) | exact isEmpty_bne _), (by first | rfl | (simp; done) | (simp [*]; done) | exact isEmpty_bne _), (by first | rfl | (simp; done) | (simp [*]; done) | exact isEmpty_bne _), H', ⟨by have := HK1.out; omega⟩, ⟨by repeat (first | (with_reducible first | exact HB.out | apply below_alloc | apply pw_below_drewN | apply below_drew1) | exact HB.out)⟩⟩
          · rw [if_neg c8] at H
            exact absurd H (by simp)
      · rw [if_neg c2] at H
        have c2b0 : decide (x4_1 < 16) = false := decide_eq_false c2
        clear c2
        obtain rfl := Option.some.inj H
        go_wp2
        go_ret
        exact ⟨by first | rfl | (simp [errW_none, errW_some] <;> rfl) | (simp [*, errW_none, errW_some] <;> rfl), by repeat (first | (with_reducible first | exact HB.out | apply below_alloc | apply pw_below_drewN | apply below_drew1) | exact HB.out)⟩

end Go.Proofs.Ytbakfpiflcaacaa.PFormatVerbose
