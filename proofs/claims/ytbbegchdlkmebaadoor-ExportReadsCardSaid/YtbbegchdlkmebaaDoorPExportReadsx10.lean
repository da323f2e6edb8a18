-- LAID BY gprint.py: a scratch copy of the print, with functions that this session proved by hand among the printed ones
import Derived.Test.YtbbegchdlkmebaaDoorPExportReadsx0
import Derived.Test.YtbbegchdlkmebaaDoorPExportReadsx8
import Derived.Test.YtbbegchdlkmebaaDoorPExportReadsx9
namespace Go.Proofs.YtbbegchdlkmebaaDoor.PExportReads
open Go.RowKit Go.Proofs.YtbbegchdlkmebaaDoorW.PrintWords Go.Proofs.YtbbegchdlkmebaaDoorW.PrintLast Go.Proofs.YtbbegchdlkmebaaDoor.Conv Go.Proofs.YtbbegchdlkmebaaDoor.Bld Go.Proofs.YtbbegchdlkmebaaDoorW.PrintMore
attribute [local go_sem] max2_int min2_int max_two min_two max_three min_three max_four min_four gtr_less   -- for this text's walks alone
set_option linter.unusedVariables false
set_option linter.unusedSimpArgs false

/-! ### logbookref32_Entry: function 12 -/
def logbookref32_Entry.l0 : Nat → List ByteArray → ByteArray → Int → Option (ByteArray)
 | 0, _, _, _ => none
 | k + 1, x1, x5, x6 => if x6 < (x1.length : Int) then (if 0 ≤ x6 then ((logbookref32_Item.f k (rdOf ByteArray.empty x1 x6)).bind fun t197 => (if x5.size + t197.size ≤ 9223372036854775807 then (logbookref32_Entry.l0 k x1 (x5 ++ t197) (wrap64 (x6 + 1))) else (none))) else (none)) else (if x5.size + 1 ≤ 9223372036854775807 then (some (x5 ++ (⟨#[10]⟩ : ByteArray))) else (none))
def logbookref32_Entry.f (k : Nat) (a0_0 : Int) (a0_1 : Int) (a0_2 : Int) (a0_3 : Int) (a0_4 : Int) (a0_5 : Int) (l1 : List ByteArray) : Option (ByteArray) := (logbookref29_Text.f k a0_0 a0_1 a0_2 a0_3 a0_4 a0_5).bind fun t190 => (if 9 + t190.size ≤ 9223372036854775807 then (if 9 + t190.size + 22 ≤ 9223372036854775807 then ((logbookref32_Decimal.f k a0_4).bind fun t191 => (if 9 + t190.size + 22 + t191.size ≤ 9223372036854775807 then (if 9 + t190.size + 22 + t191.size + 23 ≤ 9223372036854775807 then ((logbookref32_Decimal.f k a0_3).bind fun t192 => (if 9 + t190.size + 22 + t191.size + 23 + t192.size ≤ 9223372036854775807 then (if 9 + t190.size + 22 + t191.size + 23 + t192.size + 11 ≤ 9223372036854775807 then ((logbookref22_Hex.f k a0_2).bind fun t193 => (if 9 + t190.size + 22 + t191.size + 23 + t192.size + 11 + t193.size ≤ 9223372036854775807 then (if 9 + t190.size + 22 + t191.size + 23 + t192.size + 11 + t193.size + 10 ≤ 9223372036854775807 then ((logbookref32_Decimal.f k a0_1).bind fun t194 => (if 9 + t190.size + 22 + t191.size + 23 + t192.size + 11 + t193.size + 10 + t194.size ≤ 9223372036854775807 then (if 9 + t190.size + 22 + t191.size + 23 + t192.size + 11 + t193.size + 10 + t194.size + 13 ≤ 9223372036854775807 then ((logbookref22_Hex.f k a0_0).bind fun t195 => (if 9 + t190.size + 22 + t191.size + 23 + t192.size + 11 + t193.size + 10 + t194.size + 13 + t195.size ≤ 9223372036854775807 then (if 9 + t190.size + 22 + t191.size + 23 + t192.size + 11 + t193.size + 10 + t194.size + 13 + t195.size + 1 ≤ 9223372036854775807 then (logbookref32_Entry.l0 k l1 (((((((((((((⟨#[95, 95, 67, 85, 82, 83, 79, 82, 61]⟩ : ByteArray) ++ t190) ++ (⟨#[10, 95, 95, 82, 69, 65, 76, 84, 73, 77, 69, 95, 84, 73, 77, 69, 83, 84, 65, 77, 80, 61]⟩ : ByteArray)) ++ t191) ++ (⟨#[10, 95, 95, 77, 79, 78, 79, 84, 79, 78, 73, 67, 95, 84, 73, 77, 69, 83, 84, 65, 77, 80, 61]⟩ : ByteArray)) ++ t192) ++ (⟨#[10, 95, 95, 66, 79, 79, 84, 95, 73, 68, 61]⟩ : ByteArray)) ++ t193) ++ (⟨#[10, 95, 95, 83, 69, 81, 78, 85, 77, 61]⟩ : ByteArray)) ++ t194) ++ (⟨#[10, 95, 95, 83, 69, 81, 78, 85, 77, 95, 73, 68, 61]⟩ : ByteArray)) ++ t195) ++ (⟨#[10]⟩ : ByteArray)) 0) else (none)) else (none))) else (none)) else (none))) else (none)) else (none))) else (none)) else (none))) else (none)) else (none))) else (none)) else (none))
theorem logbookref32_Entry.mono_l : ∀ k, (∀ y0 y1 y2, LeO (logbookref32_Entry.l0 k y0 y1 y2) (logbookref32_Entry.l0 (k + 1) y0 y1 y2))
 | 0 => fun _ _ _ r h => by simp [logbookref32_Entry.l0] at h
 | k + 1 => by
  have ih0 := logbookref32_Entry.mono_l k
  ·intro y0 y1 y2
   unfold logbookref32_Entry.l0
   repeat' first
   | (with_reducible exact ih0 _ _ _)
   | (with_reducible exact logbookref22_Hex.mono _ _)
   | (with_reducible exact logbookref29_Text.mono _ _ _ _ _ _ _)
   | (with_reducible exact logbookref32_Decimal.mono _ _)
   | (with_reducible exact logbookref32_Item.mono _ _)
   | (with_reducible exact LeO.refl _)
   | (with_reducible exact LeO.none _)
   | (with_reducible refine LeO.ite ?_ ?_)
   | (with_reducible refine LeO.bind ?_ (fun _ => ?_))
   | exact ih0 _ _ _
   | exact logbookref22_Hex.mono _ _
   | exact logbookref29_Text.mono _ _ _ _ _ _ _
   | exact logbookref32_Decimal.mono _ _
   | exact logbookref32_Item.mono _ _
   | exact LeO.none _
   | refine LeO.ite ?_ ?_
   | refine LeO.bind ?_ (fun _ => ?_)
theorem logbookref32_Entry.mono : ∀ a0 a1 a2 a3 a4 a5 a6 k, LeO (logbookref32_Entry.f k a0 a1 a2 a3 a4 a5 a6) (logbookref32_Entry.f (k + 1) a0 a1 a2 a3 a4 a5 a6) := by
 intro a0 a1 a2 a3 a4 a5 a6 k
 have ih0 := logbookref32_Entry.mono_l k
 unfold logbookref32_Entry.f
 repeat' first
   | (with_reducible exact ih0 _ _ _)
   | (with_reducible exact logbookref22_Hex.mono _ _)
   | (with_reducible exact logbookref29_Text.mono _ _ _ _ _ _ _)
   | (with_reducible exact logbookref32_Decimal.mono _ _)
   | (with_reducible exact logbookref32_Item.mono _ _)
   | (with_reducible exact LeO.refl _)
   | (with_reducible exact LeO.none _)
   | (with_reducible refine LeO.ite ?_ ?_)
   | (with_reducible refine LeO.bind ?_ (fun _ => ?_))
   | exact ih0 _ _ _
   | exact logbookref22_Hex.mono _ _
   | exact logbookref29_Text.mono _ _ _ _ _ _ _
   | exact logbookref32_Decimal.mono _ _
   | exact logbookref32_Item.mono _ _
   | exact LeO.none _
   | refine LeO.ite ?_ ?_
   | refine LeO.bind ?_ (fun _ => ?_)
def logbookref32_Entry.T1 : Bool × List (List Nat × List Nat) := (true, [([], []), ([0], [0]), ([1], [1]), ([2], [2]), ([], []), ([4], [4]), ([5, 1], [5]), ([3, 6], [3, 6]), ([7], [7]), ([], []), ([9], [9]), ([10, 6], [10]), ([8, 11], [8, 11]), ([12], [12]), ([], []), ([14], [14]), ([15, 11], [15]), ([13, 16], [13, 16]), ([17], [17]), ([], []), ([19], [19]), ([20, 16], [20]), ([18, 21], [18, 21]), ([22], [22]), ([], []), ([24], [24]), ([25, 21], [25]), ([23, 26], [23, 26]), ([27], [27]), ([28, 26, 0, 1, 2, 3, 4, 5, 6, 7, 8, 9, 10, 11, 12, 13, 14, 15, 16, 17, 18, 19, 20, 21, 22, 23, 24, 25, 26, 27, 28], [28])])
def logbookref32_Entry.B1 : List Nat := [0, 1, 3, 7, 0, 16, 51, 127, 255, 0, 512, 1651, 4095, 8191, 0, 16384, 52851, 131071, 262143, 0, 524288, 1691251, 4194303, 8388607, 0, 16777216, 54120051, 134217727, 268435455, 536870911]
theorem logbookref32_Entry.tab1 : rtab .any (opsOf Tryd.f12 1) = logbookref32_Entry.T1 := by kernel_rfl
theorem logbookref32_Entry.bits1 : waitsOk logbookref32_Entry.T1.2 logbookref32_Entry.B1 = true := by kernel_rfl
set_option maxHeartbeats 8000000 in
set_option maxRecDepth 100000 in
theorem logbookref32_Entry.calls (k : Nat) (a0_0 : Int) (a0_1 : Int) (a0_2 : Int) (a0_3 : Int) (a0_4 : Int) (a0_5 : Int) (A1 : Option Addr) (c1 : Nat) (l1 : List ByteArray) (r : ByteArray) (w : World) (hr1 : Kd.C Kd.string w A1 l1.length l1) (hc1 : l1.length ≤ c1) (h : logbookref32_Entry.f k a0_0 a0_1 a0_2 a0_3 a0_4 a0_5 l1 = some r) :
  Calls Tryd.prog 12 #[.agg #[.int .u64 a0_0, .int .u64 a0_1, .int .u64 a0_2, .int .u64 a0_3, .int .u64 a0_4, .int .u64 a0_5], .slice A1 l1.length c1] w fun e w' => e = .returned (.string r) ∧ Below w.heap.size w w' := by
 have hu23 := Tryd.underlying23
 have HR1 := Aside0.mk hr1
 have HC1 := Aside0.mk hc1
 clear hr1 hc1
 have HB := Aside0.mk (Below.refl w.heap.size w)
 have H : ((logbookref29_Text.f k a0_0 a0_1 a0_2 a0_3 a0_4 a0_5).bind fun t190 => (if 9 + t190.size ≤ 9223372036854775807 then (if 9 + t190.size + 22 ≤ 9223372036854775807 then ((logbookref32_Decimal.f k a0_4).bind fun t191 => (if 9 + t190.size + 22 + t191.size ≤ 9223372036854775807 then (if 9 + t190.size + 22 + t191.size + 23 ≤ 9223372036854775807 then ((logbookref32_Decimal.f k a0_3).bind fun t192 => (if 9 + t190.size + 22 + t191.size + 23 + t192.size ≤ 9223372036854775807 then (if 9 + t190.size + 22 + t191.size + 23 + t192.size + 11 ≤ 9223372036854775807 then ((logbookref22_Hex.f k a0_2).bind fun t193 => (if 9 + t190.size + 22 + t191.size + 23 + t192.size + 11 + t193.size ≤ 9223372036854775807 then (if 9 + t190.size + 22 + t191.size + 23 + t192.size + 11 + t193.size + 10 ≤ 9223372036854775807 then ((logbookref32_Decimal.f k a0_1).bind fun t194 => (if 9 + t190.size + 22 + t191.size + 23 + t192.size + 11 + t193.size + 10 + t194.size ≤ 9223372036854775807 then (if 9 + t190.size + 22 + t191.size + 23 + t192.size + 11 + t193.size + 10 + t194.size + 13 ≤ 9223372036854775807 then ((logbookref22_Hex.f k a0_0).bind fun t195 => (if 9 + t190.size + 22 + t191.size + 23 + t192.size + 11 + t193.size + 10 + t194.size + 13 + t195.size ≤ 9223372036854775807 then (if 9 + t190.size + 22 + t191.size + 23 + t192.size + 11 + t193.size + 10 + t194.size + 13 + t195.size + 1 ≤ 9223372036854775807 then (logbookref32_Entry.l0 k l1 (((((((((((((⟨#[95, 95, 67, 85, 82, 83, 79, 82, 61]⟩ : ByteArray) ++ t190) ++ (⟨#[10, 95, 95, 82, 69, 65, 76, 84, 73, 77, 69, 95, 84, 73, 77, 69, 83, 84, 65, 77, 80, 61]⟩ : ByteArray)) ++ t191) ++ (⟨#[10, 95, 95, 77, 79, 78, 79, 84, 79, 78, 73, 67, 95, 84, 73, 77, 69, 83, 84, 65, 77, 80, 61]⟩ : ByteArray)) ++ t192) ++ (⟨#[10, 95, 95, 66, 79, 79, 84, 95, 73, 68, 61]⟩ : ByteArray)) ++ t193) ++ (⟨#[10, 95, 95, 83, 69, 81, 78, 85, 77, 61]⟩ : ByteArray)) ++ t194) ++ (⟨#[10, 95, 95, 83, 69, 81, 78, 85, 77, 95, 73, 68, 61]⟩ : ByteArray)) ++ t195) ++ (⟨#[10]⟩ : ByteArray)) 0) else (none)) else (none))) else (none)) else (none))) else (none)) else (none))) else (none)) else (none))) else (none)) else (none))) else (none)) else (none))) = some r := h
 clear h
 replace H := Option.bind_eq_some_iff.mp H
 obtain ⟨t190, A30, H⟩ := H
 replace H : (if 9 + t190.size ≤ 9223372036854775807 then (if 9 + t190.size + 22 ≤ 9223372036854775807 then ((logbookref32_Decimal.f k a0_4).bind fun t191 => (if 9 + t190.size + 22 + t191.size ≤ 9223372036854775807 then (if 9 + t190.size + 22 + t191.size + 23 ≤ 9223372036854775807 then ((logbookref32_Decimal.f k a0_3).bind fun t192 => (if 9 + t190.size + 22 + t191.size + 23 + t192.size ≤ 9223372036854775807 then (if 9 + t190.size + 22 + t191.size + 23 + t192.size + 11 ≤ 9223372036854775807 then ((logbookref22_Hex.f k a0_2).bind fun t193 => (if 9 + t190.size + 22 + t191.size + 23 + t192.size + 11 + t193.size ≤ 9223372036854775807 then (if 9 + t190.size + 22 + t191.size + 23 + t192.size + 11 + t193.size + 10 ≤ 9223372036854775807 then ((logbookref32_Decimal.f k a0_1).bind fun t194 => (if 9 + t190.size + 22 + t191.size + 23 + t192.size + 11 + t193.size + 10 + t194.size ≤ 9223372036854775807 then (if 9 + t190.size + 22 + t191.size + 23 + t192.size + 11 + t193.size + 10 + t194.size + 13 ≤ 9223372036854775807 then ((logbookref22_Hex.f k a0_0).bind fun t195 => (if 9 + t190.size + 22 + t191.size + 23 + t192.size + 11 + t193.size + 10 + t194.size + 13 + t195.size ≤ 9223372036854775807 then (if 9 + t190.size + 22 + t191.size + 23 + t192.size + 11 + t193.size + 10 + t194.size + 13 + t195.size + 1 ≤ 9223372036854775807 then (logbookref32_Entry.l0 k l1 (((((((((((((⟨#[95, 95, 67, 85, 82, 83, 79, 82, 61]⟩ : ByteArray) ++ t190) ++ (⟨#[10, 95, 95, 82, 69, 65, 76, 84, 73, 77, 69, 95, 84, 73, 77, 69, 83, 84, 65, 77, 80, 61]⟩ : ByteArray)) ++ t191) ++ (⟨#[10, 95, 95, 77, 79, 78, 79, 84, 79, 78, 73, 67, 95, 84, 73, 77, 69, 83, 84, 65, 77, 80, 61]⟩ : ByteArray)) ++ t192) ++ (⟨#[10, 95, 95, 66, 79, 79, 84, 95, 73, 68, 61]⟩ : ByteArray)) ++ t193) ++ (⟨#[10, 95, 95, 83, 69, 81, 78, 85, 77, 61]⟩ : ByteArray)) ++ t194) ++ (⟨#[10, 95, 95, 83, 69, 81, 78, 85, 77, 95, 73, 68, 61]⟩ : ByteArray)) ++ t195) ++ (⟨#[10]⟩ : ByteArray)) 0) else (none)) else (none))) else (none)) else (none))) else (none)) else (none))) else (none)) else (none))) else (none)) else (none))) else (none)) else (none)) = some r := H
 have A3 := Aside0.mk A30
 clear A30
 by_cases c4 : 9 + t190.size ≤ 9223372036854775807
 ·rw [if_pos c4] at H
  have c4b0 := eq_true c4
  have c4b1 : decide (9 + t190.size ≤ 9223372036854775807) = true := decide_eq_true c4
  try have c4b2 : (9223372036854775807 < 9 + t190.size) = False := eq_false (Nat.not_lt.2 c4)
  by_cases c5 : 9 + t190.size + 22 ≤ 9223372036854775807
  ·rw [if_pos c5] at H
   have c5b0 := eq_true c5
   have c5b1 : decide (9 + t190.size + 22 ≤ 9223372036854775807) = true := decide_eq_true c5
   try have c5b2 : (9223372036854775807 < 9 + t190.size + 22) = False := eq_false (Nat.not_lt.2 c5)
   replace H := Option.bind_eq_some_iff.mp H
   obtain ⟨t191, A60, H⟩ := H
   replace H : (if 9 + t190.size + 22 + t191.size ≤ 9223372036854775807 then (if 9 + t190.size + 22 + t191.size + 23 ≤ 9223372036854775807 then ((logbookref32_Decimal.f k a0_3).bind fun t192 => (if 9 + t190.size + 22 + t191.size + 23 + t192.size ≤ 9223372036854775807 then (if 9 + t190.size + 22 + t191.size + 23 + t192.size + 11 ≤ 9223372036854775807 then ((logbookref22_Hex.f k a0_2).bind fun t193 => (if 9 + t190.size + 22 + t191.size + 23 + t192.size + 11 + t193.size ≤ 9223372036854775807 then (if 9 + t190.size + 22 + t191.size + 23 + t192.size + 11 + t193.size + 10 ≤ 9223372036854775807 then ((logbookref32_Decimal.f k a0_1).bind fun t194 => (if 9 + t190.size + 22 + t191.size + 23 + t192.size + 11 + t193.size + 10 + t194.size ≤ 9223372036854775807 then (if 9 + t190.size + 22 + t191.size + 23 + t192.size + 11 + t193.size + 10 + t194.size + 13 ≤ 9223372036854775807 then ((logbookref22_Hex.f k a0_0).bind fun t195 => (if 9 + t190.size + 22 + t191.size + 23 + t192.size + 11 + t193.size + 10 + t194.size + 13 + t195.size ≤ 9223372036854775807 then (if 9 + t190.size + 22 + t191.size + 23 + t192.size + 11 + t193.size + 10 + t194.size + 13 + t195.size + 1 ≤ 9223372036854775807 then (logbookref32_Entry.l0 k l1 (((((((((((((⟨#[95, 95, 67, 85, 82, 83, 79, 82, 61]⟩ : ByteArray) ++ t190) ++ (⟨#[10, 95, 95, 82, 69, 65, 76, 84, 73, 77, 69, 95, 84, 73, 77, 69, 83, 84, 65, 77, 80, 61]⟩ : ByteArray)) ++ t191) ++ (⟨#[10, 95, 95, 77, 79, 78, 79, 84, 79, 78, 73, 67, 95, 84, 73, 77, 69, 83, 84, 65, 77, 80, 61]⟩ : ByteArray)) ++ t192) ++ (⟨#[10, 95, 95, 66, 79, 79, 84, 95, 73, 68, 61]⟩ : ByteArray)) ++ t193) ++ (⟨#[10, 95, 95, 83, 69, 81, 78, 85, 77, 61]⟩ : ByteArray)) ++ t194) ++ (⟨#[10, 95, 95, 83, 69, 81, 78, 85, 77, 95, 73, 68, 61]⟩ : ByteArray)) ++ t195) ++ (⟨#[10]⟩ : ByteArray)) 0) else (none)) else (none))) else (none)) else (none))) else (none)) else (none))) else (none)) else (none))) else (none)) else (none)) = some r := H
   have A6 := Aside0.mk A60
   clear A60
   by_cases c7 : 9 + t190.size + 22 + t191.size ≤ 9223372036854775807
   ·rw [if_pos c7] at H
    have c7b0 := eq_true c7
    have c7b1 : decide (9 + t190.size + 22 + t191.size ≤ 9223372036854775807) = true := decide_eq_true c7
    try have c7b2 : (9223372036854775807 < 9 + t190.size + 22 + t191.size) = False := eq_false (Nat.not_lt.2 c7)
    by_cases c8 : 9 + t190.size + 22 + t191.size + 23 ≤ 9223372036854775807
    ·rw [if_pos c8] at H
     have c8b0 := eq_true c8
     have c8b1 : decide (9 + t190.size + 22 + t191.size + 23 ≤ 9223372036854775807) = true := decide_eq_true c8
     try have c8b2 : (9223372036854775807 < 9 + t190.size + 22 + t191.size + 23) = False := eq_false (Nat.not_lt.2 c8)
     replace H := Option.bind_eq_some_iff.mp H
     obtain ⟨t192, A90, H⟩ := H
     replace H : (if 9 + t190.size + 22 + t191.size + 23 + t192.size ≤ 9223372036854775807 then (if 9 + t190.size + 22 + t191.size + 23 + t192.size + 11 ≤ 9223372036854775807 then ((logbookref22_Hex.f k a0_2).bind fun t193 => (if 9 + t190.size + 22 + t191.size + 23 + t192.size + 11 + t193.size ≤ 9223372036854775807 then (if 9 + t190.size + 22 + t191.size + 23 + t192.size + 11 + t193.size + 10 ≤ 9223372036854775807 then ((logbookref32_Decimal.f k a0_1).bind fun t194 => (if 9 + t190.size + 22 + t191.size + 23 + t192.size + 11 + t193.size + 10 + t194.size ≤ 9223372036854775807 then (if 9 + t190.size + 22 + t191.size + 23 + t192.size + 11 + t193.size + 10 + t194.size + 13 ≤ 9223372036854775807 then ((logbookref22_Hex.f k a0_0).bind fun t195 => (if 9 + t190.size + 22 + t191.size + 23 + t192.size + 11 + t193.size + 10 + t194.size + 13 + t195.size ≤ 9223372036854775807 then (if 9 + t190.size + 22 + t191.size + 23 + t192.size + 11 + t193.size + 10 + t194.size + 13 + t195.size + 1 ≤ 9223372036854775807 then (logbookref32_Entry.l0 k l1 (((((((((((((⟨#[95, 95, 67, 85, 82, 83, 79, 82, 61]⟩ : ByteArray) ++ t190) ++ (⟨#[10, 95, 95, 82, 69, 65, 76, 84, 73, 77, 69, 95, 84, 73, 77, 69, 83, 84, 65, 77, 80, 61]⟩ : ByteArray)) ++ t191) ++ (⟨#[10, 95, 95, 77, 79, 78, 79, 84, 79, 78, 73, 67, 95, 84, 73, 77, 69, 83, 84, 65, 77, 80, 61]⟩ : ByteArray)) ++ t192) ++ (⟨#[10, 95, 95, 66, 79, 79, 84, 95, 73, 68, 61]⟩ : ByteArray)) ++ t193) ++ (⟨#[10, 95, 95, 83, 69, 81, 78, 85, 77, 61]⟩ : ByteArray)) ++ t194) ++ (⟨#[10, 95, 95, 83, 69, 81, 78, 85, 77, 95, 73, 68, 61]⟩ : ByteArray)) ++ t195) ++ (⟨#[10]⟩ : ByteArray)) 0) else (none)) else (none))) else (none)) else (none))) else (none)) else (none))) else (none)) else (none)) = some r := H
     have A9 := Aside0.mk A90
     clear A90
     by_cases c10 : 9 + t190.size + 22 + t191.size + 23 + t192.size ≤ 9223372036854775807
     ·rw [if_pos c10] at H
      have c10b0 := eq_true c10
      have c10b1 : decide (9 + t190.size + 22 + t191.size + 23 + t192.size ≤ 9223372036854775807) = true := decide_eq_true c10
      try have c10b2 : (9223372036854775807 < 9 + t190.size + 22 + t191.size + 23 + t192.size) = False := eq_false (Nat.not_lt.2 c10)
      by_cases c11 : 9 + t190.size + 22 + t191.size + 23 + t192.size + 11 ≤ 9223372036854775807
      ·rw [if_pos c11] at H
       have c11b0 := eq_true c11
       have c11b1 : decide (9 + t190.size + 22 + t191.size + 23 + t192.size + 11 ≤ 9223372036854775807) = true := decide_eq_true c11
       try have c11b2 : (9223372036854775807 < 9 + t190.size + 22 + t191.size + 23 + t192.size + 11) = False := eq_false (Nat.not_lt.2 c11)
       replace H := Option.bind_eq_some_iff.mp H
       obtain ⟨t193, A120, H⟩ := H
       replace H : (if 9 + t190.size + 22 + t191.size + 23 + t192.size + 11 + t193.size ≤ 9223372036854775807 then (if 9 + t190.size + 22 + t191.size + 23 + t192.size + 11 + t193.size + 10 ≤ 9223372036854775807 then ((logbookref32_Decimal.f k a0_1).bind fun t194 => (if 9 + t190.size + 22 + t191.size + 23 + t192.size + 11 + t193.size + 10 + t194.size ≤ 9223372036854775807 then (if 9 + t190.size + 22 + t191.size + 23 + t192.size + 11 + t193.size + 10 + t194.size + 13 ≤ 9223372036854775807 then ((logbookref22_Hex.f k a0_0).bind fun t195 => (if 9 + t190.size + 22 + t191.size + 23 + t192.size + 11 + t193.size + 10 + t194.size + 13 + t195.size ≤ 9223372036854775807 then (if 9 + t190.size + 22 + t191.size + 23 + t192.size + 11 + t193.size + 10 + t194.size + 13 + t195.size + 1 ≤ 9223372036854775807 then (logbookref32_Entry.l0 k l1 (((((((((((((⟨#[95, 95, 67, 85, 82, 83, 79, 82, 61]⟩ : ByteArray) ++ t190) ++ (⟨#[10, 95, 95, 82, 69, 65, 76, 84, 73, 77, 69, 95, 84, 73, 77, 69, 83, 84, 65, 77, 80, 61]⟩ : ByteArray)) ++ t191) ++ (⟨#[10, 95, 95, 77, 79, 78, 79, 84, 79, 78, 73, 67, 95, 84, 73, 77, 69, 83, 84, 65, 77, 80, 61]⟩ : ByteArray)) ++ t192) ++ (⟨#[10, 95, 95, 66, 79, 79, 84, 95, 73, 68, 61]⟩ : ByteArray)) ++ t193) ++ (⟨#[10, 95, 95, 83, 69, 81, 78, 85, 77, 61]⟩ : ByteArray)) ++ t194) ++ (⟨#[10, 95, 95, 83, 69, 81, 78, 85, 77, 95, 73, 68, 61]⟩ : ByteArray)) ++ t195) ++ (⟨#[10]⟩ : ByteArray)) 0) else (none)) else (none))) else (none)) else (none))) else (none)) else (none)) = some r := H
       have A12 := Aside0.mk A120
       clear A120
       by_cases c13 : 9 + t190.size + 22 + t191.size + 23 + t192.size + 11 + t193.size ≤ 9223372036854775807
       ·rw [if_pos c13] at H
        have c13b0 := eq_true c13
        have c13b1 : decide (9 + t190.size + 22 + t191.size + 23 + t192.size + 11 + t193.size ≤ 9223372036854775807) = true := decide_eq_true c13
        try have c13b2 : (9223372036854775807 < 9 + t190.size + 22 + t191.size + 23 + t192.size + 11 + t193.size) = False := eq_false (Nat.not_lt.2 c13)
        by_cases c14 : 9 + t190.size + 22 + t191.size + 23 + t192.size + 11 + t193.size + 10 ≤ 9223372036854775807
        ·rw [if_pos c14] at H
         have c14b0 := eq_true c14
         have c14b1 : decide (9 + t190.size + 22 + t191.size + 23 + t192.size + 11 + t193.size + 10 ≤ 9223372036854775807) = true := decide_eq_true c14
         try have c14b2 : (9223372036854775807 < 9 + t190.size + 22 + t191.size + 23 + t192.size + 11 + t193.size + 10) = False := eq_false (Nat.not_lt.2 c14)
         replace H := Option.bind_eq_some_iff.mp H
         obtain ⟨t194, A150, H⟩ := H
         replace H : (if 9 + t190.size + 22 + t191.size + 23 + t192.size + 11 + t193.size + 10 + t194.size ≤ 9223372036854775807 then (if 9 + t190.size + 22 + t191.size + 23 + t192.size + 11 + t193.size + 10 + t194.size + 13 ≤ 9223372036854775807 then ((logbookref22_Hex.f k a0_0).bind fun t195 => (if 9 + t190.size + 22 + t191.size + 23 + t192.size + 11 + t193.size + 10 + t194.size + 13 + t195.size ≤ 9223372036854775807 then (if 9 + t190.size + 22 + t191.size + 23 + t192.size + 11 + t193.size + 10 + t194.size + 13 + t195.size + 1 ≤ 9223372036854775807 then (logbookref32_Entry.l0 k l1 (((((((((((((⟨#[95, 95, 67, 85, 82, 83, 79, 82, 61]⟩ : ByteArray) ++ t190) ++ (⟨#[10, 95, 95, 82, 69, 65, 76, 84, 73, 77, 69, 95, 84, 73, 77, 69, 83, 84, 65, 77, 80, 61]⟩ : ByteArray)) ++ t191) ++ (⟨#[10, 95, 95, 77, 79, 78, 79, 84, 79, 78, 73, 67, 95, 84, 73, 77, 69, 83, 84, 65, 77, 80, 61]⟩ : ByteArray)) ++ t192) ++ (⟨#[10, 95, 95, 66, 79, 79, 84, 95, 73, 68, 61]⟩ : ByteArray)) ++ t193) ++ (⟨#[10, 95, 95, 83, 69, 81, 78, 85, 77, 61]⟩ : ByteArray)) ++ t194) ++ (⟨#[10, 95, 95, 83, 69, 81, 78, 85, 77, 95, 73, 68, 61]⟩ : ByteArray)) ++ t195) ++ (⟨#[10]⟩ : ByteArray)) 0) else (none)) else (none))) else (none)) else (none)) = some r := H
         have A15 := Aside0.mk A150
         clear A150
         by_cases c16 : 9 + t190.size + 22 + t191.size + 23 + t192.size + 11 + t193.size + 10 + t194.size ≤ 9223372036854775807
         ·rw [if_pos c16] at H
          have c16b0 := eq_true c16
          have c16b1 : decide (9 + t190.size + 22 + t191.size + 23 + t192.size + 11 + t193.size + 10 + t194.size ≤ 9223372036854775807) = true := decide_eq_true c16
          try have c16b2 : (9223372036854775807 < 9 + t190.size + 22 + t191.size + 23 + t192.size + 11 + t193.size + 10 + t194.size) = False := eq_false (Nat.not_lt.2 c16)
          by_cases c17 : 9 + t190.size + 22 + t191.size + 23 + t192.size + 11 + t193.size + 10 + t194.size + 13 ≤ 9223372036854775807
          ·rw [if_pos c17] at H
           have c17b0 := eq_true c17
           have c17b1 : decide (9 + t190.size + 22 + t191.size + 23 + t192.size + 11 + t193.size + 10 + t194.size + 13 ≤ 9223372036854775807) = true := decide_eq_true c17
           try have c17b2 : (9223372036854775807 < 9 + t190.size + 22 + t191.size + 23 + t192.size + 11 + t193.size + 10 + t194.size + 13) = False := eq_false (Nat.not_lt.2 c17)
           replace H := Option.bind_eq_some_iff.mp H
           obtain ⟨t195, A180, H⟩ := H
           replace H : (if 9 + t190.size + 22 + t191.size + 23 + t192.size + 11 + t193.size + 10 + t194.size + 13 + t195.size ≤ 9223372036854775807 then (if 9 + t190.size + 22 + t191.size + 23 + t192.size + 11 + t193.size + 10 + t194.size + 13 + t195.size + 1 ≤ 9223372036854775807 then (logbookref32_Entry.l0 k l1 (((((((((((((⟨#[95, 95, 67, 85, 82, 83, 79, 82, 61]⟩ : ByteArray) ++ t190) ++ (⟨#[10, 95, 95, 82, 69, 65, 76, 84, 73, 77, 69, 95, 84, 73, 77, 69, 83, 84, 65, 77, 80, 61]⟩ : ByteArray)) ++ t191) ++ (⟨#[10, 95, 95, 77, 79, 78, 79, 84, 79, 78, 73, 67, 95, 84, 73, 77, 69, 83, 84, 65, 77, 80, 61]⟩ : ByteArray)) ++ t192) ++ (⟨#[10, 95, 95, 66, 79, 79, 84, 95, 73, 68, 61]⟩ : ByteArray)) ++ t193) ++ (⟨#[10, 95, 95, 83, 69, 81, 78, 85, 77, 61]⟩ : ByteArray)) ++ t194) ++ (⟨#[10, 95, 95, 83, 69, 81, 78, 85, 77, 95, 73, 68, 61]⟩ : ByteArray)) ++ t195) ++ (⟨#[10]⟩ : ByteArray)) 0) else (none)) else (none)) = some r := H
           have A18 := Aside0.mk A180
           clear A180
           by_cases c19 : 9 + t190.size + 22 + t191.size + 23 + t192.size + 11 + t193.size + 10 + t194.size + 13 + t195.size ≤ 9223372036854775807
           ·rw [if_pos c19] at H
            have c19b0 := eq_true c19
            have c19b1 : decide (9 + t190.size + 22 + t191.size + 23 + t192.size + 11 + t193.size + 10 + t194.size + 13 + t195.size ≤ 9223372036854775807) = true := decide_eq_true c19
            try have c19b2 : (9223372036854775807 < 9 + t190.size + 22 + t191.size + 23 + t192.size + 11 + t193.size + 10 + t194.size + 13 + t195.size) = False := eq_false (Nat.not_lt.2 c19)
            by_cases c20 : 9 + t190.size + 22 + t191.size + 23 + t192.size + 11 + t193.size + 10 + t194.size + 13 + t195.size + 1 ≤ 9223372036854775807
            ·rw [if_pos c20] at H
             have c20b0 := eq_true c20
             have c20b1 : decide (9 + t190.size + 22 + t191.size + 23 + t192.size + 11 + t193.size + 10 + t194.size + 13 + t195.size + 1 ≤ 9223372036854775807) = true := decide_eq_true c20
             try have c20b2 : (9223372036854775807 < 9 + t190.size + 22 + t191.size + 23 + t192.size + 11 + t193.size + 10 + t194.size + 13 + t195.size + 1) = False := eq_false (Nat.not_lt.2 c20)
             have H' := Aside0.mk H
             clear H
             go_enter Tryd.func12, Tryd.ntmps12
             try go_wp2_with (first | ((with_reducible refine gate_dst (N := 2) rfl ?_); refine box_event ?hg (N := 2) ?hd (cs := #[.int .u64 a0_0, .int .u64 a0_1, .int .u64 a0_2, .int .u64 a0_3, .int .u64 a0_4, .int .u64 a0_5]) (t := 23) ?hr ?_; (case hd => rfl); (case hg => rfl); (case hr => first | (go_simp; done) | (go_simp; rfl)); intro gb189 hg w21 hbox hb; have n0_ := Aside0.mk (below_step (by repeat (first | (with_reducible first | exact HB.out | apply below_alloc | apply pw_below_drewN | apply below_drew1) | exact HB.out)) hb); have n1_ := Aside0.mk (hbox); have n2_ := Aside0.mk ((by rw [hg]; exact (below_size (by repeat (first | (with_reducible first | exact HB.out | apply below_alloc | apply pw_below_drewN | apply below_drew1) | exact HB.out))) : w.heap.size ≤ gb189)); have n3_ := Aside0.mk ((by rw [hg]; exact (below_size (by repeat (first | (with_reducible first | exact HB.out | apply below_alloc | apply pw_below_drewN | apply below_drew1) | exact HB.out))) : w.heap.size ≤ gb189)); clear HB; have HB := n0_; have BK189 := n1_; have GW189 := n2_; have GE189 := n3_; clear n0_ n1_ n2_ n3_; clear hb hbox hg))
             have n0_ := Aside0.mk (blk_drew BK189.out)
             have n1_ := Aside0.mk (below_drew1 HB.out)
             clear BK189
             clear HB
             have BK189 := n0_
             have HB := n1_
             clear n0_ n1_
             refine start_ (n := 30) (S := fun w' => w'.cell? ⟨gb189, 0, none⟩ = some (.int .u64 a0_0) ∧ w'.cell? ⟨gb189, 1, none⟩ = some (.int .u64 a0_1) ∧ w'.cell? ⟨gb189, 2, none⟩ = some (.int .u64 a0_2) ∧ w'.cell? ⟨gb189, 3, none⟩ = some (.int .u64 a0_3) ∧ w'.cell? ⟨gb189, 4, none⟩ = some (.int .u64 a0_4) ∧ w'.cell? ⟨gb189, 5, none⟩ = some (.int .u64 a0_5)) (ds := []) #[false, false, false, false, false, false, false, false, false, false, false, false, false, false, false, false, false, false, false, false, false, false, false, false, false, false, false, false, false, false] (by kernel_rfl) rfl rfl ⟨(blk_cell BK189.out 0).trans rfl, (blk_cell BK189.out 1).trans rfl, (blk_cell BK189.out 2).trans rfl, (blk_cell BK189.out 3).trans rfl, (blk_cell BK189.out 4).trans rfl, (blk_cell BK189.out 5).trans rfl⟩ (fun hHeld => ?_); refine with_tabW logbookref32_Entry.tab1 logbookref32_Entry.bits1 (fun HT_ HW_ => ?_)
             generalize w21.drew = w22 at BK189 HB hHeld ⊢
             refine pure_ (i := 4) (N := some 11) (v := ?_) (a' := ?_) #[false, false, false, false, true, false, false, false, false, false, false, false, false, false, false, false, false, false, false, false, false, false, false, false, false, false, false, false, false, false] rfl rfl (any_of HT_.out (by kernel_rfl)) (fun _ _ _ h => h) (Or.inl ⟨by rfl, ?_⟩) ?_ ?_
             rotate_left
             ·intro w'
              go_simp
              with_reducible rfl
             rotate_left
             ·simp only [Act.put, List.setIfInBounds_toArray, List.set_cons_zero, List.set_cons_succ, i64_w, i32_w]
              rfl
             refine pure_ (i := 9) (N := some 16) (v := ?_) (a' := ?_) #[false, false, false, false, true, false, false, false, false, true, false, false, false, false, false, false, false, false, false, false, false, false, false, false, false, false, false, false, false, false] rfl rfl (any_of HT_.out (by kernel_rfl)) (fun _ _ _ h => h) (Or.inl ⟨by rfl, ?_⟩) ?_ ?_
             rotate_left
             ·intro w'
              go_simp
              with_reducible rfl
             rotate_left
             ·simp only [Act.put, List.setIfInBounds_toArray, List.set_cons_zero, List.set_cons_succ, i64_w, i32_w]
              rfl
             refine pure_ (i := 14) (N := some 21) (v := ?_) (a' := ?_) #[false, false, false, false, true, false, false, false, false, true, false, false, false, false, true, false, false, false, false, false, false, false, false, false, false, false, false, false, false, false] rfl rfl (any_of HT_.out (by kernel_rfl)) (fun _ _ _ h => h) (Or.inl ⟨by rfl, ?_⟩) ?_ ?_
             rotate_left
             ·intro w'
              go_simp
              with_reducible rfl
             rotate_left
             ·simp only [Act.put, List.setIfInBounds_toArray, List.set_cons_zero, List.set_cons_succ, i64_w, i32_w]
              rfl
             refine pure_ (i := 19) (N := some 26) (v := ?_) (a' := ?_) #[false, false, false, false, true, false, false, false, false, true, false, false, false, false, true, false, false, false, false, true, false, false, false, false, false, false, false, false, false, false] rfl rfl (any_of HT_.out (by kernel_rfl)) (fun _ _ _ h => h) (Or.inl ⟨by rfl, ?_⟩) ?_ ?_
             rotate_left
             ·intro w'
              go_simp
              with_reducible rfl
             rotate_left
             ·simp only [Act.put, List.setIfInBounds_toArray, List.set_cons_zero, List.set_cons_succ, i64_w, i32_w]
              rfl
             refine pure_ (i := 24) (N := some 31) (v := ?_) (a' := ?_) #[false, false, false, false, true, false, false, false, false, true, false, false, false, false, true, false, false, false, false, true, false, false, false, false, true, false, false, false, false, false] rfl rfl (any_of HT_.out (by kernel_rfl)) (fun _ _ _ h => h) (Or.inl ⟨by rfl, ?_⟩) ?_ ?_
             rotate_left
             ·intro w'
              go_simp
              with_reducible rfl
             rotate_left
             ·simp only [Act.put, List.setIfInBounds_toArray, List.set_cons_zero, List.set_cons_succ, i64_w, i32_w]
              rfl
             refine take_ (i := 0) (N := some 7) (v := ?_) (a' := ?_) #[true, false, false, false, true, false, false, false, false, true, false, false, false, false, true, false, false, false, false, true, false, false, false, false, true, false, false, false, false, false] rfl rfl (take_ofW HT_.out HW_.out (by kernel_rfl)) (fun _ _ _ h => h) (Or.inl ⟨by rfl, ?_⟩) hHeld ?_ ?_
             rotate_left
             ·rintro w' ⟨s0, s1, s2, s3, s4, s5⟩
              go_simp
              with_reducible rfl
             rotate_left
             ·simp only [Act.put, List.setIfInBounds_toArray, List.set_cons_zero, List.set_cons_succ, i64_w, i32_w]
              rfl
             refine take_ (i := 5) (N := some 12) (v := ?_) (a' := ?_) #[true, false, false, false, true, true, false, false, false, true, false, false, false, false, true, false, false, false, false, true, false, false, false, false, true, false, false, false, false, false] rfl rfl (take_ofW HT_.out HW_.out (by kernel_rfl)) (fun _ _ _ h => h) (Or.inl ⟨by rfl, ?_⟩) hHeld ?_ ?_
             rotate_left
             ·rintro w' ⟨s0, s1, s2, s3, s4, s5⟩
              go_simp
              with_reducible rfl
             rotate_left
             ·simp only [Act.put, List.setIfInBounds_toArray, List.set_cons_zero, List.set_cons_succ, i64_w, i32_w]
              rfl
             refine take_ (i := 10) (N := some 17) (v := ?_) (a' := ?_) #[true, false, false, false, true, true, false, false, false, true, true, false, false, false, true, false, false, false, false, true, false, false, false, false, true, false, false, false, false, false] rfl rfl (take_ofW HT_.out HW_.out (by kernel_rfl)) (fun _ _ _ h => h) (Or.inl ⟨by rfl, ?_⟩) hHeld ?_ ?_
             rotate_left
             ·rintro w' ⟨s0, s1, s2, s3, s4, s5⟩
              go_simp
              with_reducible rfl
             rotate_left
             ·simp only [Act.put, List.setIfInBounds_toArray, List.set_cons_zero, List.set_cons_succ, i64_w, i32_w]
              rfl
             refine take_ (i := 15) (N := some 22) (v := ?_) (a' := ?_) #[true, false, false, false, true, true, false, false, false, true, true, false, false, false, true, true, false, false, false, true, false, false, false, false, true, false, false, false, false, false] rfl rfl (take_ofW HT_.out HW_.out (by kernel_rfl)) (fun _ _ _ h => h) (Or.inl ⟨by rfl, ?_⟩) hHeld ?_ ?_
             rotate_left
             ·rintro w' ⟨s0, s1, s2, s3, s4, s5⟩
              go_simp
              with_reducible rfl
             rotate_left
             ·simp only [Act.put, List.setIfInBounds_toArray, List.set_cons_zero, List.set_cons_succ, i64_w, i32_w]
              rfl
             refine take_ (i := 20) (N := some 27) (v := ?_) (a' := ?_) #[true, false, false, false, true, true, false, false, false, true, true, false, false, false, true, true, false, false, false, true, true, false, false, false, true, false, false, false, false, false] rfl rfl (take_ofW HT_.out HW_.out (by kernel_rfl)) (fun _ _ _ h => h) (Or.inl ⟨by rfl, ?_⟩) hHeld ?_ ?_
             rotate_left
             ·rintro w' ⟨s0, s1, s2, s3, s4, s5⟩
              go_simp
              with_reducible rfl
             rotate_left
             ·simp only [Act.put, List.setIfInBounds_toArray, List.set_cons_zero, List.set_cons_succ, i64_w, i32_w]
              rfl
             refine take_ (i := 25) (N := some 32) (v := ?_) (a' := ?_) #[true, false, false, false, true, true, false, false, false, true, true, false, false, false, true, true, false, false, false, true, true, false, false, false, true, true, false, false, false, false] rfl rfl (take_ofW HT_.out HW_.out (by kernel_rfl)) (fun _ _ _ h => h) (Or.inl ⟨by rfl, ?_⟩) hHeld ?_ ?_
             rotate_left
             ·rintro w' ⟨s0, s1, s2, s3, s4, s5⟩
              go_simp
              with_reducible rfl
             rotate_left
             ·simp only [Act.put, List.setIfInBounds_toArray, List.set_cons_zero, List.set_cons_succ, i64_w, i32_w]
              rfl
             refine one_ (i := 1) (N := some 8) #[true, true, false, false, true, true, false, false, false, true, true, false, false, false, true, true, false, false, false, true, true, false, false, false, true, true, false, false, false, false] rfl rfl (one_of HT_.out (by kernel_rfl)) (by decide) (fun K hK => ?_)
             refine goes_ Tryd.func29 (by kernel_rfl) rfl #[.agg #[.int .u64 a0_0, .int .u64 a0_1, .int .u64 a0_2, .int .u64 a0_3, .int .u64 a0_4, .int .u64 a0_5]] (by rfl) rfl rfl (by (try simp only [List.map_toArray, List.map_cons, List.map_nil]); first | done | rfl | (simp only [List.length_drop, List.length_take]; rfl)) ?_
             with_reducible refine (logbookref29_Text.calls k a0_0 a0_1 a0_2 a0_3 a0_4 a0_5 t190 _ A3.out).mono ?_
             rintro e w23 ⟨rfl, hb⟩
             refine ⟨_, rfl, ?_⟩
             have n0_ := Aside0.mk (blk_below (g := gb189) (o := .cells #[.int .u64 a0_0, .int .u64 a0_1, .int .u64 a0_2, .int .u64 a0_3, .int .u64 a0_4, .int .u64 a0_5] 23 (0, 0)) (by (with_reducible repeat (first | refine blk_drewN ?_ _ | refine blk_drew ?_ | refine blk_alloc ?_ _)); exact BK189.out) hb)
             have n1_ := Aside0.mk (below_step (by repeat (first | (with_reducible first | exact HB.out | apply below_alloc | apply pw_below_drewN | apply below_drew1 | refine below_set ?_ GE189.out) | exact HB.out)) hb)
             clear BK189
             clear HB
             have BK189 := n0_
             have HB := n1_
             clear n0_ n1_
             (try clear hb)
             (try clear hb2)
             (try clear hk)
             (try clear hi)
             refine hK.out _ _ ⟨(blk_cell BK189.out 0).trans rfl, (blk_cell BK189.out 1).trans rfl, (blk_cell BK189.out 2).trans rfl, (blk_cell BK189.out 3).trans rfl, (blk_cell BK189.out 4).trans rfl, (blk_cell BK189.out 5).trans rfl⟩ (fun hHeld => ?_)
             clear hK K
             refine norm_ (a' := ?_) ?_ ?_
             rotate_left
             ·show Act.put _ (some 8) _ = _
              simp only [Act.put, List.setIfInBounds_toArray, List.set_cons_zero, List.set_cons_succ, i64_w, i32_w]
              rfl
             refine pure_ (i := 2) (N := some 9) (v := ?_) (a' := ?_) #[true, true, true, false, true, true, false, false, false, true, true, false, false, false, true, true, false, false, false, true, true, false, false, false, true, true, false, false, false, false] rfl rfl (any_of HT_.out (by kernel_rfl)) (fun _ _ _ h => h) (Or.inl ⟨by rfl, ?_⟩) ?_ ?_
             rotate_left
             ·intro w'
              go_simp
              with_reducible rfl
             rotate_left
             ·simp only [Act.put, List.setIfInBounds_toArray, List.set_cons_zero, List.set_cons_succ, i64_w, i32_w]
              rfl
             refine pure_ (i := 3) (N := some 10) (v := ?_) (a' := ?_) #[true, true, true, true, true, true, false, false, false, true, true, false, false, false, true, true, false, false, false, true, true, false, false, false, true, true, false, false, false, false] rfl rfl (any_of HT_.out (by kernel_rfl)) (fun _ _ _ h => h) (Or.inl ⟨by rfl, ?_⟩) ?_ ?_
             rotate_left
             ·intro w'
              go_simp
              with_reducible rfl
             rotate_left
             ·simp only [Act.put, List.setIfInBounds_toArray, List.set_cons_zero, List.set_cons_succ, i64_w, i32_w]
              rfl
             refine one_ (i := 6) (N := some 13) #[true, true, true, true, true, true, true, false, false, true, true, false, false, false, true, true, false, false, false, true, true, false, false, false, true, true, false, false, false, false] rfl rfl (one_of HT_.out (by kernel_rfl)) (by decide) (fun K hK => ?_)
             refine goes_ Tryd.func30 (by kernel_rfl) rfl #[.int .u64 a0_4] (by rfl) rfl rfl (by (try simp only [List.map_toArray, List.map_cons, List.map_nil]); first | done | rfl | (simp only [List.length_drop, List.length_take]; rfl)) ?_
             with_reducible refine (logbookref32_Decimal.calls k a0_4 t191 _ A6.out).mono ?_
             rintro e w24 ⟨rfl, hb⟩
             refine ⟨_, rfl, ?_⟩
             have n0_ := Aside0.mk (blk_below (g := gb189) (o := .cells #[.int .u64 a0_0, .int .u64 a0_1, .int .u64 a0_2, .int .u64 a0_3, .int .u64 a0_4, .int .u64 a0_5] 23 (0, 0)) (by (with_reducible repeat (first | refine blk_drewN ?_ _ | refine blk_drew ?_ | refine blk_alloc ?_ _)); exact BK189.out) hb)
             have n1_ := Aside0.mk (below_step (by repeat (first | (with_reducible first | exact HB.out | apply below_alloc | apply pw_below_drewN | apply below_drew1 | refine below_set ?_ GE189.out) | exact HB.out)) hb)
             clear BK189
             clear HB
             have BK189 := n0_
             have HB := n1_
             clear n0_ n1_
             (try clear hb)
             (try clear hb2)
             (try clear hk)
             (try clear hi)
             refine hK.out _ _ ⟨(blk_cell BK189.out 0).trans rfl, (blk_cell BK189.out 1).trans rfl, (blk_cell BK189.out 2).trans rfl, (blk_cell BK189.out 3).trans rfl, (blk_cell BK189.out 4).trans rfl, (blk_cell BK189.out 5).trans rfl⟩ (fun hHeld => ?_)
             clear hK K
             refine norm_ (a' := ?_) ?_ ?_
             rotate_left
             ·show Act.put _ (some 13) _ = _
              simp only [Act.put, List.setIfInBounds_toArray, List.set_cons_zero, List.set_cons_succ, i64_w, i32_w]
              rfl
             refine pure_ (i := 7) (N := some 14) (v := ?_) (a' := ?_) #[true, true, true, true, true, true, true, true, false, true, true, false, false, false, true, true, false, false, false, true, true, false, false, false, true, true, false, false, false, false] rfl rfl (any_of HT_.out (by kernel_rfl)) (fun _ _ _ h => h) (Or.inl ⟨by rfl, ?_⟩) ?_ ?_
             rotate_left
             ·intro w'
              go_simp
              with_reducible rfl
             rotate_left
             ·simp only [Act.put, List.setIfInBounds_toArray, List.set_cons_zero, List.set_cons_succ, i64_w, i32_w]
              rfl
             refine pure_ (i := 8) (N := some 15) (v := ?_) (a' := ?_) #[true, true, true, true, true, true, true, true, true, true, true, false, false, false, true, true, false, false, false, true, true, false, false, false, true, true, false, false, false, false] rfl rfl (any_of HT_.out (by kernel_rfl)) (fun _ _ _ h => h) (Or.inl ⟨by rfl, ?_⟩) ?_ ?_
             rotate_left
             ·intro w'
              go_simp
              with_reducible rfl
             rotate_left
             ·simp only [Act.put, List.setIfInBounds_toArray, List.set_cons_zero, List.set_cons_succ, i64_w, i32_w]
              rfl
             refine one_ (i := 11) (N := some 18) #[true, true, true, true, true, true, true, true, true, true, true, true, false, false, true, true, false, false, false, true, true, false, false, false, true, true, false, false, false, false] rfl rfl (one_of HT_.out (by kernel_rfl)) (by decide) (fun K hK => ?_)
             refine goes_ Tryd.func30 (by kernel_rfl) rfl #[.int .u64 a0_3] (by rfl) rfl rfl (by (try simp only [List.map_toArray, List.map_cons, List.map_nil]); first | done | rfl | (simp only [List.length_drop, List.length_take]; rfl)) ?_
             with_reducible refine (logbookref32_Decimal.calls k a0_3 t192 _ A9.out).mono ?_
             rintro e w25 ⟨rfl, hb⟩
             refine ⟨_, rfl, ?_⟩
             have n0_ := Aside0.mk (blk_below (g := gb189) (o := .cells #[.int .u64 a0_0, .int .u64 a0_1, .int .u64 a0_2, .int .u64 a0_3, .int .u64 a0_4, .int .u64 a0_5] 23 (0, 0)) (by (with_reducible repeat (first | refine blk_drewN ?_ _ | refine blk_drew ?_ | refine blk_alloc ?_ _)); exact BK189.out) hb)
             have n1_ := Aside0.mk (below_step (by repeat (first | (with_reducible first | exact HB.out | apply below_alloc | apply pw_below_drewN | apply below_drew1 | refine below_set ?_ GE189.out) | exact HB.out)) hb)
             clear BK189
             clear HB
             have BK189 := n0_
             have HB := n1_
             clear n0_ n1_
             (try clear hb)
             (try clear hb2)
             (try clear hk)
             (try clear hi)
             refine hK.out _ _ ⟨(blk_cell BK189.out 0).trans rfl, (blk_cell BK189.out 1).trans rfl, (blk_cell BK189.out 2).trans rfl, (blk_cell BK189.out 3).trans rfl, (blk_cell BK189.out 4).trans rfl, (blk_cell BK189.out 5).trans rfl⟩ (fun hHeld => ?_)
             clear hK K
             refine norm_ (a' := ?_) ?_ ?_
             rotate_left
             ·show Act.put _ (some 18) _ = _
              simp only [Act.put, List.setIfInBounds_toArray, List.set_cons_zero, List.set_cons_succ, i64_w, i32_w]
              rfl
             refine pure_ (i := 12) (N := some 19) (v := ?_) (a' := ?_) #[true, true, true, true, true, true, true, true, true, true, true, true, true, false, true, true, false, false, false, true, true, false, false, false, true, true, false, false, false, false] rfl rfl (any_of HT_.out (by kernel_rfl)) (fun _ _ _ h => h) (Or.inl ⟨by rfl, ?_⟩) ?_ ?_
             rotate_left
             ·intro w'
              go_simp
              with_reducible rfl
             rotate_left
             ·simp only [Act.put, List.setIfInBounds_toArray, List.set_cons_zero, List.set_cons_succ, i64_w, i32_w]
              rfl
             refine pure_ (i := 13) (N := some 20) (v := ?_) (a' := ?_) #[true, true, true, true, true, true, true, true, true, true, true, true, true, true, true, true, false, false, false, true, true, false, false, false, true, true, false, false, false, false] rfl rfl (any_of HT_.out (by kernel_rfl)) (fun _ _ _ h => h) (Or.inl ⟨by rfl, ?_⟩) ?_ ?_
             rotate_left
             ·intro w'
              go_simp
              with_reducible rfl
             rotate_left
             ·simp only [Act.put, List.setIfInBounds_toArray, List.set_cons_zero, List.set_cons_succ, i64_w, i32_w]
              rfl
             refine one_ (i := 16) (N := some 23) #[true, true, true, true, true, true, true, true, true, true, true, true, true, true, true, true, true, false, false, true, true, false, false, false, true, true, false, false, false, false] rfl rfl (one_of HT_.out (by kernel_rfl)) (by decide) (fun K hK => ?_)
             refine goes_ Tryd.func31 (by kernel_rfl) rfl #[.int .u64 a0_2] (by rfl) rfl rfl (by (try simp only [List.map_toArray, List.map_cons, List.map_nil]); first | done | rfl | (simp only [List.length_drop, List.length_take]; rfl)) ?_
             with_reducible refine (logbookref22_Hex.calls k a0_2 t193 _ A12.out).mono ?_
             rintro e w26 ⟨rfl, hb⟩
             refine ⟨_, rfl, ?_⟩
             have n0_ := Aside0.mk (blk_below (g := gb189) (o := .cells #[.int .u64 a0_0, .int .u64 a0_1, .int .u64 a0_2, .int .u64 a0_3, .int .u64 a0_4, .int .u64 a0_5] 23 (0, 0)) (by (with_reducible repeat (first | refine blk_drewN ?_ _ | refine blk_drew ?_ | refine blk_alloc ?_ _)); exact BK189.out) hb)
             have n1_ := Aside0.mk (below_step (by repeat (first | (with_reducible first | exact HB.out | apply below_alloc | apply pw_below_drewN | apply below_drew1 | refine below_set ?_ GE189.out) | exact HB.out)) hb)
             clear BK189
             clear HB
             have BK189 := n0_
             have HB := n1_
             clear n0_ n1_
             (try clear hb)
             (try clear hb2)
             (try clear hk)
             (try clear hi)
             refine hK.out _ _ ⟨(blk_cell BK189.out 0).trans rfl, (blk_cell BK189.out 1).trans rfl, (blk_cell BK189.out 2).trans rfl, (blk_cell BK189.out 3).trans rfl, (blk_cell BK189.out 4).trans rfl, (blk_cell BK189.out 5).trans rfl⟩ (fun hHeld => ?_)
             clear hK K
             refine norm_ (a' := ?_) ?_ ?_
             rotate_left
             ·show Act.put _ (some 23) _ = _
              simp only [Act.put, List.setIfInBounds_toArray, List.set_cons_zero, List.set_cons_succ, i64_w, i32_w]
              rfl
             refine pure_ (i := 17) (N := some 24) (v := ?_) (a' := ?_) #[true, true, true, true, true, true, true, true, true, true, true, true, true, true, true, true, true, true, false, true, true, false, false, false, true, true, false, false, false, false] rfl rfl (any_of HT_.out (by kernel_rfl)) (fun _ _ _ h => h) (Or.inl ⟨by rfl, ?_⟩) ?_ ?_
             rotate_left
             ·intro w'
              go_simp
              with_reducible rfl
             rotate_left
             ·simp only [Act.put, List.setIfInBounds_toArray, List.set_cons_zero, List.set_cons_succ, i64_w, i32_w]
              rfl
             refine pure_ (i := 18) (N := some 25) (v := ?_) (a' := ?_) #[true, true, true, true, true, true, true, true, true, true, true, true, true, true, true, true, true, true, true, true, true, false, false, false, true, true, false, false, false, false] rfl rfl (any_of HT_.out (by kernel_rfl)) (fun _ _ _ h => h) (Or.inl ⟨by rfl, ?_⟩) ?_ ?_
             rotate_left
             ·intro w'
              go_simp
              with_reducible rfl
             rotate_left
             ·simp only [Act.put, List.setIfInBounds_toArray, List.set_cons_zero, List.set_cons_succ, i64_w, i32_w]
              rfl
             refine one_ (i := 21) (N := some 28) #[true, true, true, true, true, true, true, true, true, true, true, true, true, true, true, true, true, true, true, true, true, true, false, false, true, true, false, false, false, false] rfl rfl (one_of HT_.out (by kernel_rfl)) (by decide) (fun K hK => ?_)
             refine goes_ Tryd.func30 (by kernel_rfl) rfl #[.int .u64 a0_1] (by rfl) rfl rfl (by (try simp only [List.map_toArray, List.map_cons, List.map_nil]); first | done | rfl | (simp only [List.length_drop, List.length_take]; rfl)) ?_
             with_reducible refine (logbookref32_Decimal.calls k a0_1 t194 _ A15.out).mono ?_
             rintro e w27 ⟨rfl, hb⟩
             refine ⟨_, rfl, ?_⟩
             have n0_ := Aside0.mk (blk_below (g := gb189) (o := .cells #[.int .u64 a0_0, .int .u64 a0_1, .int .u64 a0_2, .int .u64 a0_3, .int .u64 a0_4, .int .u64 a0_5] 23 (0, 0)) (by (with_reducible repeat (first | refine blk_drewN ?_ _ | refine blk_drew ?_ | refine blk_alloc ?_ _)); exact BK189.out) hb)
             have n1_ := Aside0.mk (below_step (by repeat (first | (with_reducible first | exact HB.out | apply below_alloc | apply pw_below_drewN | apply below_drew1 | refine below_set ?_ GE189.out) | exact HB.out)) hb)
             clear BK189
             clear HB
             have BK189 := n0_
             have HB := n1_
             clear n0_ n1_
             (try clear hb)
             (try clear hb2)
             (try clear hk)
             (try clear hi)
             refine hK.out _ _ ⟨(blk_cell BK189.out 0).trans rfl, (blk_cell BK189.out 1).trans rfl, (blk_cell BK189.out 2).trans rfl, (blk_cell BK189.out 3).trans rfl, (blk_cell BK189.out 4).trans rfl, (blk_cell BK189.out 5).trans rfl⟩ (fun hHeld => ?_)
             clear hK K
             refine norm_ (a' := ?_) ?_ ?_
             rotate_left
             ·show Act.put _ (some 28) _ = _
              simp only [Act.put, List.setIfInBounds_toArray, List.set_cons_zero, List.set_cons_succ, i64_w, i32_w]
              rfl
             refine pure_ (i := 22) (N := some 29) (v := ?_) (a' := ?_) #[true, true, true, true, true, true, true, true, true, true, true, true, true, true, true, true, true, true, true, true, true, true, true, false, true, true, false, false, false, false] rfl rfl (any_of HT_.out (by kernel_rfl)) (fun _ _ _ h => h) (Or.inl ⟨by rfl, ?_⟩) ?_ ?_
             rotate_left
             ·intro w'
              go_simp
              with_reducible rfl
             rotate_left
             ·simp only [Act.put, List.setIfInBounds_toArray, List.set_cons_zero, List.set_cons_succ, i64_w, i32_w]
              rfl
             refine pure_ (i := 23) (N := some 30) (v := ?_) (a' := ?_) #[true, true, true, true, true, true, true, true, true, true, true, true, true, true, true, true, true, true, true, true, true, true, true, true, true, true, false, false, false, false] rfl rfl (any_of HT_.out (by kernel_rfl)) (fun _ _ _ h => h) (Or.inl ⟨by rfl, ?_⟩) ?_ ?_
             rotate_left
             ·intro w'
              go_simp
              with_reducible rfl
             rotate_left
             ·simp only [Act.put, List.setIfInBounds_toArray, List.set_cons_zero, List.set_cons_succ, i64_w, i32_w]
              rfl
             refine one_ (i := 26) (N := some 33) #[true, true, true, true, true, true, true, true, true, true, true, true, true, true, true, true, true, true, true, true, true, true, true, true, true, true, true, false, false, false] rfl rfl (one_of HT_.out (by kernel_rfl)) (by decide) (fun K hK => ?_)
             refine goes_ Tryd.func31 (by kernel_rfl) rfl #[.int .u64 a0_0] (by rfl) rfl rfl (by (try simp only [List.map_toArray, List.map_cons, List.map_nil]); first | done | rfl | (simp only [List.length_drop, List.length_take]; rfl)) ?_
             with_reducible refine (logbookref22_Hex.calls k a0_0 t195 _ A18.out).mono ?_
             rintro e w28 ⟨rfl, hb⟩
             refine ⟨_, rfl, ?_⟩
             have n0_ := Aside0.mk (blk_below (g := gb189) (o := .cells #[.int .u64 a0_0, .int .u64 a0_1, .int .u64 a0_2, .int .u64 a0_3, .int .u64 a0_4, .int .u64 a0_5] 23 (0, 0)) (by (with_reducible repeat (first | refine blk_drewN ?_ _ | refine blk_drew ?_ | refine blk_alloc ?_ _)); exact BK189.out) hb)
             have n1_ := Aside0.mk (below_step (by repeat (first | (with_reducible first | exact HB.out | apply below_alloc | apply pw_below_drewN | apply below_drew1 | refine below_set ?_ GE189.out) | exact HB.out)) hb)
             clear BK189
             clear HB
             have BK189 := n0_
             have HB := n1_
             clear n0_ n1_
             (try clear hb)
             (try clear hb2)
             (try clear hk)
             (try clear hi)
             refine hK.out _ _ ⟨(blk_cell BK189.out 0).trans rfl, (blk_cell BK189.out 1).trans rfl, (blk_cell BK189.out 2).trans rfl, (blk_cell BK189.out 3).trans rfl, (blk_cell BK189.out 4).trans rfl, (blk_cell BK189.out 5).trans rfl⟩ (fun hHeld => ?_)
             clear hK K
             refine norm_ (a' := ?_) ?_ ?_
             rotate_left
             ·show Act.put _ (some 33) _ = _
              simp only [Act.put, List.setIfInBounds_toArray, List.set_cons_zero, List.set_cons_succ, i64_w, i32_w]
              rfl
             refine pure_ (i := 27) (N := some 34) (v := ?_) (a' := ?_) #[true, true, true, true, true, true, true, true, true, true, true, true, true, true, true, true, true, true, true, true, true, true, true, true, true, true, true, true, false, false] rfl rfl (any_of HT_.out (by kernel_rfl)) (fun _ _ _ h => h) (Or.inl ⟨by rfl, ?_⟩) ?_ ?_
             rotate_left
             ·intro w'
              go_simp
              with_reducible rfl
             rotate_left
             ·simp only [Act.put, List.setIfInBounds_toArray, List.set_cons_zero, List.set_cons_succ, i64_w, i32_w]
              rfl
             refine pure_ (i := 28) (N := some 35) (v := ?_) (a' := ?_) #[true, true, true, true, true, true, true, true, true, true, true, true, true, true, true, true, true, true, true, true, true, true, true, true, true, true, true, true, true, false] rfl rfl (any_of HT_.out (by kernel_rfl)) (fun _ _ _ h => h) (Or.inl ⟨by rfl, ?_⟩) ?_ ?_
             rotate_left
             ·intro w'
              go_simp
              with_reducible rfl
             rotate_left
             ·simp only [Act.put, List.setIfInBounds_toArray, List.set_cons_zero, List.set_cons_succ, i64_w, i32_w]
              rfl
             refine pure_ (i := 29) (N := some 5) (v := ?_) (a' := ?_) #[true, true, true, true, true, true, true, true, true, true, true, true, true, true, true, true, true, true, true, true, true, true, true, true, true, true, true, true, true, true] rfl rfl (any_of HT_.out (by kernel_rfl)) (fun _ _ _ h => h) (Or.inl ⟨by rfl, ?_⟩) ?_ ?_
             rotate_left
             ·intro w'
              go_simp
              with_reducible rfl
             rotate_left
             ·simp only [Act.put, List.setIfInBounds_toArray, List.set_cons_zero, List.set_cons_succ, i64_w, i32_w]
              rfl
             refine done_ (done_of HT_.out (by kernel_rfl)) ?_
             try go_wp2
             go_loopg [5, 6] k (fun kq v5 v6 w' => ∃ (x5_1 : ByteArray) (x6_1 : Int), v5 = .string x5_1 ∧ v6 = .int .i64 x6_1 ∧ Aside0 (logbookref32_Entry.l0 kq l1 x5_1 x6_1 = some r) ∧ Aside0 (kq ≤ k) ∧ Aside0 (w'.heap[gb189]? = some (.cells #[.int .u64 a0_0, .int .u64 a0_1, .int .u64 a0_2, .int .u64 a0_3, .int .u64 a0_4, .int .u64 a0_5] 23 (0, 0))) ∧ Aside0 (Below w.heap.size w w'))
             case atStart => exact ⟨(((((((((((((⟨#[95, 95, 67, 85, 82, 83, 79, 82, 61]⟩ : ByteArray) ++ t190) ++ (⟨#[10, 95, 95, 82, 69, 65, 76, 84, 73, 77, 69, 95, 84, 73, 77, 69, 83, 84, 65, 77, 80, 61]⟩ : ByteArray)) ++ t191) ++ (⟨#[10, 95, 95, 77, 79, 78, 79, 84, 79, 78, 73, 67, 95, 84, 73, 77, 69, 83, 84, 65, 77, 80, 61]⟩ : ByteArray)) ++ t192) ++ (⟨#[10, 95, 95, 66, 79, 79, 84, 95, 73, 68, 61]⟩ : ByteArray)) ++ t193) ++ (⟨#[10, 95, 95, 83, 69, 81, 78, 85, 77, 61]⟩ : ByteArray)) ++ t194) ++ (⟨#[10, 95, 95, 83, 69, 81, 78, 85, 77, 95, 73, 68, 61]⟩ : ByteArray)) ++ t195) ++ (⟨#[10]⟩ : ByteArray)), (0), (by first | rfl | (simp; done) | (simp [*]; done) | exact isEmpty_bne _), (by first | rfl | (simp; done) | (simp [*]; done) | exact isEmpty_bne _), H', ⟨Nat.le_refl _⟩, ⟨by (with_reducible repeat (first | refine blk_drewN ?_ _ | refine blk_drew ?_ | refine blk_alloc ?_ _)); exact BK189.out⟩, ⟨by repeat (first | (with_reducible first | exact HB.out | apply below_alloc | apply pw_below_drewN | apply below_drew1 | refine below_set ?_ GE189.out) | exact HB.out)⟩⟩
             case round =>
              clear H'
              try clear c1
              try clear c2
              try clear p2
              try clear c3
              try clear c4
              try clear c4b0
              try clear c4b1
              try clear c4b2
              try clear c5
              try clear c5b0
              try clear c5b1
              try clear c5b2
              try clear c7
              try clear c7b0
              try clear c7b1
              try clear c7b2
              try clear c8
              try clear c8b0
              try clear c8b1
              try clear c8b2
              try clear c10
              try clear c10b0
              try clear c10b1
              try clear c10b2
              try clear c11
              try clear c11b0
              try clear c11b1
              try clear c11b2
              try clear c12
              try clear c13
              try clear c13b0
              try clear c13b1
              try clear c13b2
              try clear c14
              try clear c14b0
              try clear c14b1
              try clear c14b2
              try clear c16
              try clear c16b0
              try clear c16b1
              try clear c16b2
              try clear c17
              try clear c17b0
              try clear c17b1
              try clear c17b2
              try clear c19
              try clear c19b0
              try clear c19b1
              try clear c19b2
              try clear c20
              try clear c20b0
              try clear c20b1
              try clear c20b2
              obtain ⟨x5_1, x6_1, rfl, rfl, HA, HK1, BK189, HB⟩ := hrel
              cases gk with
              | zero => exact absurd HA.out (by simp [logbookref32_Entry.l0])
              | succ k1 =>
               have H := HA.out
               clear HA
               simp only [logbookref32_Entry.l0] at H
               by_cases c29 : x6_1 < (l1.length : Int)
               ·rw [if_pos c29] at H
                have c29b0 : decide (x6_1 < (l1.length : Int)) = true := decide_eq_true c29
                clear c29
                by_cases c30 : 0 ≤ x6_1
                ·rw [if_pos c30] at H
                 have c30b0 : decide (0 ≤ x6_1) = true := decide_eq_true c30
                 clear c30
                 replace H := Option.bind_eq_some_iff.mp H
                 obtain ⟨t197, A310, H⟩ := H
                 replace H : (if x5_1.size + t197.size ≤ 9223372036854775807 then (logbookref32_Entry.l0 k1 l1 (x5_1 ++ t197) (wrap64 (x6_1 + 1))) else (none)) = some r := H
                 have A31 := Aside0.mk A310
                 clear A310
                 by_cases c32 : x5_1.size + t197.size ≤ 9223372036854775807
                 ·rw [if_pos c32] at H
                  have c32b0 := eq_true c32
                  have c32b1 : decide (x5_1.size + t197.size ≤ 9223372036854775807) = true := decide_eq_true c32
                  try have c32b2 : (9223372036854775807 < x5_1.size + t197.size) = False := eq_false (Nat.not_lt.2 c32)
                  have H' := Aside0.mk H
                  clear H
                  have p196 : 0 ≤ (x6_1 : Int) := of_decide_eq_true (by first | (with_reducible assumption) | assumption)
                  have q196 : x6_1 < (l1.length : Int) := of_decide_eq_true (by first | (with_reducible assumption) | assumption)
                  obtain ⟨ad196, e196, hx196_0⟩ := Kd.at_string HR1.out x6_1 p196 q196
                  cases e196
                  replace hx196_0 := (HB.out.cell (World.block_lt_of_cell? w _ hx196_0)).trans hx196_0
                  replace p196 := eq_true p196
                  replace q196 := eq_true q196
                  go_wp2_with (first | ((with_reducible refine gate_callee (f := 9) rfl ?_); refine goesL_ (some 47) rfl rfl Tryd.func9 (by kernel_rfl) rfl #[.string (rdOf ByteArray.empty l1 x6_1)] rfl (by (try simp only [List.map_toArray, List.map_cons, List.map_nil]); first | done | rfl | (simp only [List.length_drop, List.length_take]; rfl)) ?_; (with_reducible refine (logbookref32_Item.calls k1 (rdOf ByteArray.empty l1 x6_1) t197 _ A31.out).mono ?_); rintro e w33 ⟨rfl, hb⟩; refine ⟨_, rfl, ?_⟩; have n0_ := Aside0.mk (blk_below (g := gb189) (o := .cells #[.int .u64 a0_0, .int .u64 a0_1, .int .u64 a0_2, .int .u64 a0_3, .int .u64 a0_4, .int .u64 a0_5] 23 (0, 0)) (by (with_reducible repeat (first | refine blk_drewN ?_ _ | refine blk_drew ?_ | refine blk_alloc ?_ _)); exact BK189.out) hb); have n1_ := Aside0.mk (below_step (by repeat (first | (with_reducible first | exact HB.out | apply below_alloc | apply pw_below_drewN | apply below_drew1 | refine below_set ?_ GE189.out) | exact HB.out)) hb); clear BK189; clear HB; have BK189 := n0_; have HB := n1_; clear n0_ n1_; (try clear hb); (try clear hb2); (try clear hk); (try clear hi)))
                  go_roundg k1
                  case measure => have := HK1.out; omega
                  case rel => exact ⟨(x5_1 ++ t197), (wrap64 (x6_1 + 1)), (by first | rfl | (simp; done) | (simp [*]; done) | exact isEmpty_bne _), (by first | rfl | (simp; done) | (simp [*]; done) | exact isEmpty_bne _), H', ⟨by have := HK1.out; omega⟩, ⟨by (with_reducible repeat (first | refine blk_drewN ?_ _ | refine blk_drew ?_ | refine blk_alloc ?_ _)); exact BK189.out⟩, ⟨by repeat (first | (with_reducible first | exact HB.out | apply below_alloc | apply pw_below_drewN | apply below_drew1 | refine below_set ?_ GE189.out) | exact HB.out)⟩⟩
                 ·rw [if_neg c32] at H
                  exact absurd H (by simp)
                ·rw [if_neg c30] at H
                 exact absurd H (by simp)
               ·rw [if_neg c29] at H
                have c29b0 : decide (x6_1 < (l1.length : Int)) = false := decide_eq_false c29
                clear c29
                by_cases c34 : x5_1.size + 1 ≤ 9223372036854775807
                ·rw [if_pos c34] at H
                 have c34b0 := eq_true c34
                 have c34b1 : decide (x5_1.size + 1 ≤ 9223372036854775807) = true := decide_eq_true c34
                 try have c34b2 : (9223372036854775807 < x5_1.size + 1) = False := eq_false (Nat.not_lt.2 c34)
                 obtain rfl := Option.some.inj H
                 go_wp2
                 go_ret
                 exact ⟨by first | rfl | (simp [errW_none, errW_some] <;> rfl) | (simp [*, errW_none, errW_some] <;> rfl), by repeat (first | (with_reducible first | exact HB.out | apply below_alloc | apply pw_below_drewN | apply below_drew1 | refine below_set ?_ GE189.out) | exact HB.out)⟩
                ·rw [if_neg c34] at H
                 exact absurd H (by simp)
            ·rw [if_neg c20] at H
             exact absurd H (by simp)
           ·rw [if_neg c19] at H
            exact absurd H (by simp)
          ·rw [if_neg c17] at H
           exact absurd H (by simp)
         ·rw [if_neg c16] at H
          exact absurd H (by simp)
        ·rw [if_neg c14] at H
         exact absurd H (by simp)
       ·rw [if_neg c13] at H
        exact absurd H (by simp)
      ·rw [if_neg c11] at H
       exact absurd H (by simp)
     ·rw [if_neg c10] at H
      exact absurd H (by simp)
    ·rw [if_neg c8] at H
     exact absurd H (by simp)
   ·rw [if_neg c7] at H
    exact absurd H (by simp)
  ·rw [if_neg c5] at H
   exact absurd H (by simp)
 ·rw [if_neg c4] at H
  exact absurd H (by simp)

/-! ### logbookref32_till: function 38 -/
def logbookref32_till.l0 : Nat → ByteArray → Int → Int → Option (Int)
 | 0, _, _, _ => none
 | k + 1, x0, x1, x2 => if x1 < (x0.size : Int) then (if 0 ≤ x1 then (if (bt x0 x1) = x2 then (some x1) else (logbookref32_till.l0 k x0 (wrap64 (x1 + 1)) x2)) else (none)) else (some x1)
def logbookref32_till.f (k : Nat) (a0 : ByteArray) (a1 : Int) (a2 : Int) : Option (Int) := logbookref32_till.l0 k a0 a1 a2
theorem logbookref32_till.mono_l : ∀ k, (∀ y0 y1 y2, LeO (logbookref32_till.l0 k y0 y1 y2) (logbookref32_till.l0 (k + 1) y0 y1 y2))
 | 0 => fun _ _ _ r h => by simp [logbookref32_till.l0] at h
 | k + 1 => by
  have ih0 := logbookref32_till.mono_l k
  ·intro y0 y1 y2
   unfold logbookref32_till.l0
   repeat' first
   | (with_reducible exact ih0 _ _ _)
   | (with_reducible exact LeO.refl _)
   | (with_reducible exact LeO.none _)
   | (with_reducible refine LeO.ite ?_ ?_)
   | (with_reducible refine LeO.bind ?_ (fun _ => ?_))
   | exact ih0 _ _ _
   | exact LeO.none _
   | refine LeO.ite ?_ ?_
   | refine LeO.bind ?_ (fun _ => ?_)
theorem logbookref32_till.mono : ∀ a0 a1 a2 k, LeO (logbookref32_till.f k a0 a1 a2) (logbookref32_till.f (k + 1) a0 a1 a2) := by
 intro a0 a1 a2 k
 have ih0 := logbookref32_till.mono_l k
 unfold logbookref32_till.f
 repeat' first
   | (with_reducible exact ih0 _ _ _)
   | (with_reducible exact LeO.refl _)
   | (with_reducible exact LeO.none _)
   | (with_reducible refine LeO.ite ?_ ?_)
   | (with_reducible refine LeO.bind ?_ (fun _ => ?_))
   | exact ih0 _ _ _
   | exact LeO.none _
   | refine LeO.ite ?_ ?_
   | refine LeO.bind ?_ (fun _ => ?_)
set_option maxHeartbeats 8000000 in
set_option maxRecDepth 100000 in
theorem logbookref32_till.calls (k : Nat) (a0 : ByteArray) (a1 : Int) (a2 : Int) (r : Int) (w : World) (h : logbookref32_till.f k a0 a1 a2 = some r) :
  Calls Tryd.prog 38 #[.string a0, .int .i64 a1, .int .u8 a2] w fun e w' => e = .returned (.int .i64 r) ∧ Drawn0 w w' := by
 have H : (logbookref32_till.l0 k a0 a1 a2) = some r := h
 clear h
 have H' := Aside0.mk H
 clear H
 go_enter Tryd.func38, Tryd.ntmps38
 go_wp2
 go_loopg [1] k (fun kq v1 w' => ∃ (x1_1 : Int), v1 = .int .i64 x1_1 ∧ Aside0 (logbookref32_till.l0 kq a0 x1_1 a2 = some r) ∧ Aside0 (kq ≤ k) ∧ Drawn0 w w')
 case atStart => exact ⟨(a1), (by first | rfl | (simp; done) | (simp [*]; done) | exact isEmpty_bne _), H', ⟨Nat.le_refl _⟩, by repeat (first | exact Drawn0.refl _ | apply Drawn0.step)⟩
 case round =>
  clear H'
  try clear p2
  try clear c3
  obtain ⟨x1_1, rfl, HA, HK1, ⟨m1, rfl⟩⟩ := hrel
  cases gk with
  | zero => exact absurd HA.out (by simp [logbookref32_till.l0])
  | succ k1 =>
   have H := HA.out
   clear HA
   simp only [logbookref32_till.l0] at H
   by_cases c4 : x1_1 < (a0.size : Int)
   ·rw [if_pos c4] at H
    have c4b0 : decide (x1_1 < (a0.size : Int)) = true := decide_eq_true c4
    clear c4
    by_cases c5 : 0 ≤ x1_1
    ·rw [if_pos c5] at H
     have c5b0 : decide (0 ≤ x1_1) = true := decide_eq_true c5
     clear c5
     by_cases c7 : (bt a0 x1_1) = a2
     ·rw [if_pos c7] at H
      have c7b0 : ((bt a0 x1_1) == a2) = true := beq_iff_eq.mpr c7
      have c7b1 : ((bt a0 x1_1) != a2) = false := bne_eq_false_iff_eq.mpr c7
      clear c7
      obtain rfl := Option.some.inj H
      have p6 : 0 ≤ (x1_1 : Int) := of_decide_eq_true (by first | (with_reducible assumption) | assumption)
      have q6 : x1_1 < (a0.size : Int) := of_decide_eq_true (by first | (with_reducible assumption) | assumption)
      have hx6 := bt_at a0 x1_1
      replace p6 := eq_true p6
      replace q6 := eq_true q6
      go_wp2
      go_ret
      exact ⟨by first | rfl | (simp; done) | (simp [*]; done) | exact isEmpty_bne _, by repeat (first | exact Drawn0.refl _ | apply Drawn0.step)⟩
     ·rw [if_neg c7] at H
      have c7b0 : ((bt a0 x1_1) == a2) = false := beq_eq_false_iff_ne.mpr c7
      have c7b1 : ((bt a0 x1_1) != a2) = true := bne_iff_ne.mpr c7
      have H' := Aside0.mk H
      clear H
      have p6 : 0 ≤ (x1_1 : Int) := of_decide_eq_true (by first | (with_reducible assumption) | assumption)
      have q6 : x1_1 < (a0.size : Int) := of_decide_eq_true (by first | (with_reducible assumption) | assumption)
      have hx6 := bt_at a0 x1_1
      replace p6 := eq_true p6
      replace q6 := eq_true q6
      go_wp2
      go_roundg k1
      case measure => have := HK1.out; omega
      case rel => exact ⟨(wrap64 (x1_1 + 1)), (by first | rfl | (simp; done) | (simp [*]; done) | exact isEmpty_bne _), H', ⟨by have := HK1.out; omega⟩, by repeat (first | exact Drawn0.refl _ | apply Drawn0.step)⟩
    ·rw [if_neg c5] at H
     exact absurd H (by simp)
   ·rw [if_neg c4] at H
    have c4b0 : decide (x1_1 < (a0.size : Int)) = false := decide_eq_false c4
    clear c4
    obtain rfl := Option.some.inj H
    go_wp2
    go_ret
    exact ⟨by first | rfl | (simp; done) | (simp [*]; done) | exact isEmpty_bne _, by repeat (first | exact Drawn0.refl _ | apply Drawn0.step)⟩

end Go.Proofs.YtbbegchdlkmebaaDoor.PExportReads
