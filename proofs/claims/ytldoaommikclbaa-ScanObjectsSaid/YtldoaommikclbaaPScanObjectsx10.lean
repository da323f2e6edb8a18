-- LAID BY gprint.py: a scratch copy of the print, with functions that this session proved by hand among the printed ones
import Derived.Test.YtldoaommikclbaaPScanObjectsx0
import Derived.Test.YtldoaommikclbaaPScanObjectsx4
import Derived.Test.YtldoaommikclbaaPScanObjectsx5
import Derived.Test.YtldoaommikclbaaPScanObjectsx9
namespace Go.Proofs.Ytldoaommikclbaa.PScanObjects
open Go.RowKit Go.Proofs.YtldoaommikclbaaW.PrintWords Go.Proofs.YtldoaommikclbaaW.PrintLast Go.Proofs.Ytldoaommikclbaa.Conv Go.Proofs.YtldoaommikclbaaW.PrintMore
attribute [local go_sem] max2_int min2_int max_two min_two max_three min_three max_four min_four gtr_less   -- for this text's walks alone
set_option linter.unusedVariables false
set_option linter.unusedSimpArgs false

/-! ### logbooklaw17_ScanObjects: function 3 -/
mutual
def logbooklaw17_ScanObjects.j0 : Nat → List Int → Int → Int → Int → List (S33) → List (S33) → Bool → Option (Bool)
  | 0, _, _, _, _, _, _, _ => none
  | k + 1, x0, x1, x2, x3, x9, x10, x41 => if x41 = true then (some false) else ((scan_Places.f k x0 x1 x2 x3).bind fun t231 => (logbooklaw17_ScanObjects.l0 k x3 x9 x10 t231 0 0))
def logbooklaw17_ScanObjects.l0 : Nat → Int → List (S33) → List (S33) → List Int → Int → Int → Option (Bool)
  | 0, _, _, _, _, _, _ => none
  | k + 1, x3, x9, x10, x11, x12, x13 => if x13 < (x9.length : Int) then (if 0 ≤ x13 then (if x13 < (x10.length : Int) then (if ((rd_T33 x9 x13).f0) = ((rd_T33 x10 x13).f0) then (if ((rd_T33 x9 x13).f1) = ((rd_T33 x10 x13).f1) then ((logbookref09_Same.f k ((rd_T33 x9 x13).f2.f0) ((rd_T33 x9 x13).f2.f1) ((rd_T33 x9 x13).f2.f2) ((rd_T33 x9 x13).f2.f3) ((rd_T33 x10 x13).f2.f0) ((rd_T33 x10 x13).f2.f1) ((rd_T33 x10 x13).f2.f2) ((rd_T33 x10 x13).f2.f3)).bind fun t241 => (logbooklaw17_ScanObjects.j2 k x3 x9 x10 x11 x12 x13 (!t241))) else (logbooklaw17_ScanObjects.j2 k x3 x9 x10 x11 x12 x13 true)) else (logbooklaw17_ScanObjects.j2 k x3 x9 x10 x11 x12 x13 true)) else (none)) else (none)) else (if x12 = (x11.length : Int) then ((logbooklaw17_awake.f k).bind fun t234 => (some t234)) else (some false))
def logbooklaw17_ScanObjects.j2 : Nat → Int → List (S33) → List (S33) → List Int → Int → Int → Bool → Option (Bool)
  | 0, _, _, _, _, _, _, _ => none
  | k + 1, x3, x9, x10, x11, x12, x13, x90 => if x90 = true then (some false) else (if 0 ≤ x13 then (if x13 < (x10.length : Int) then (if ((rd_T33 x10 x13).f2.f0) = x3 then (if x12 ≥ (x11.length : Int) then (some false) else (if 0 ≤ x12 then (if x12 < (x11.length : Int) then (if (rd x11 x12) = ((rd_T33 x10 x13).f0) then (logbooklaw17_ScanObjects.l0 k x3 x9 x10 x11 (wrap64 (x12 + 1)) (wrap64 (x13 + 1))) else (some false)) else (none)) else (none))) else (logbooklaw17_ScanObjects.l0 k x3 x9 x10 x11 x12 (wrap64 (x13 + 1)))) else (none)) else (none))
end
def logbooklaw17_ScanObjects.f (k : Nat) (l0 : List Int) (a1 : Int) (a2 : Int) (a3 : Int) : Option (Bool) := if (l0.length : Int) > 3000 then ((logbooklaw17_awake.f k).bind fun t222 => (some t222)) else ((logbooklaw17_rows.f k l0 a1 a2).bind fun t223 => ((logbookref17_All.f k l0 a1 a2).bind fun t226 => (if (t223.length : Int) = (t226.length : Int) then ((scan_Whole.f k l0 a1 a2).bind fun t229 => ((logbookref17_Whole.f k l0 a1 a2).bind fun t230 => (logbooklaw17_ScanObjects.j0 k l0 a1 a2 a3 t223 t226 (t229 != t230)))) else (logbooklaw17_ScanObjects.j0 k l0 a1 a2 a3 t223 t226 true))))
theorem logbooklaw17_ScanObjects.mono_l : ∀ k, (∀ y0 y1 y2 y3 y4 y5 y6, LeO (logbooklaw17_ScanObjects.j0 k y0 y1 y2 y3 y4 y5 y6) (logbooklaw17_ScanObjects.j0 (k + 1) y0 y1 y2 y3 y4 y5 y6)) ∧ (∀ y0 y1 y2 y3 y4 y5, LeO (logbooklaw17_ScanObjects.l0 k y0 y1 y2 y3 y4 y5) (logbooklaw17_ScanObjects.l0 (k + 1) y0 y1 y2 y3 y4 y5)) ∧ (∀ y0 y1 y2 y3 y4 y5 y6, LeO (logbooklaw17_ScanObjects.j2 k y0 y1 y2 y3 y4 y5 y6) (logbooklaw17_ScanObjects.j2 (k + 1) y0 y1 y2 y3 y4 y5 y6))
  | 0 => ⟨fun _ _ _ _ _ _ _ r h => by simp [logbooklaw17_ScanObjects.j0] at h, fun _ _ _ _ _ _ r h => by simp [logbooklaw17_ScanObjects.l0] at h, fun _ _ _ _ _ _ _ r h => by simp [logbooklaw17_ScanObjects.j2] at h⟩
  | k + 1 => by
    obtain ⟨ih0, ih1, ih2⟩ := logbooklaw17_ScanObjects.mono_l k
    refine ⟨?_, ?_, ?_⟩
    · intro y0 y1 y2 y3 y4 y5 y6
      unfold logbooklaw17_ScanObjects.j0
      repeat' first
      | (with_reducible exact ih0 _ _ _ _ _ _ _)
      | (with_reducible exact ih1 _ _ _ _ _ _)
      | (with_reducible exact ih2 _ _ _ _ _ _ _)
      | (with_reducible exact logbooklaw17_awake.mono _)
      | (with_reducible exact logbooklaw17_rows.mono _ _ _ _)
      | (with_reducible exact logbookref09_Same.mono _ _ _ _ _ _ _ _ _)
      | (with_reducible exact logbookref17_All.mono _ _ _ _)
      | (with_reducible exact logbookref17_Whole.mono _ _ _ _)
      | (with_reducible exact scan_Places.mono _ _ _ _ _)
      | (with_reducible exact scan_Whole.mono _ _ _ _)
      | (with_reducible exact LeO.refl _)
      | (with_reducible exact LeO.none _)
      | (with_reducible refine LeO.ite ?_ ?_)
      | (with_reducible refine LeO.bind ?_ (fun _ => ?_))
      | exact ih0 _ _ _ _ _ _ _
      | exact ih1 _ _ _ _ _ _
      | exact ih2 _ _ _ _ _ _ _
      | exact logbooklaw17_awake.mono _
      | exact logbooklaw17_rows.mono _ _ _ _
      | exact logbookref09_Same.mono _ _ _ _ _ _ _ _ _
      | exact logbookref17_All.mono _ _ _ _
      | exact logbookref17_Whole.mono _ _ _ _
      | exact scan_Places.mono _ _ _ _ _
      | exact scan_Whole.mono _ _ _ _
      | exact LeO.none _
      | refine LeO.ite ?_ ?_
      | refine LeO.bind ?_ (fun _ => ?_)
    · intro y0 y1 y2 y3 y4 y5
      unfold logbooklaw17_ScanObjects.l0
      repeat' first
      | (with_reducible exact ih0 _ _ _ _ _ _ _)
      | (with_reducible exact ih1 _ _ _ _ _ _)
      | (with_reducible exact ih2 _ _ _ _ _ _ _)
      | (with_reducible exact logbooklaw17_awake.mono _)
      | (with_reducible exact logbooklaw17_rows.mono _ _ _ _)
      | (with_reducible exact logbookref09_Same.mono _ _ _ _ _ _ _ _ _)
      | (with_reducible exact logbookref17_All.mono _ _ _ _)
      | (with_reducible exact logbookref17_Whole.mono _ _ _ _)
      | (with_reducible exact scan_Places.mono _ _ _ _ _)
      | (with_reducible exact scan_Whole.mono _ _ _ _)
      | (with_reducible exact LeO.refl _)
      | (with_reducible exact LeO.none _)
      | (with_reducible refine LeO.ite ?_ ?_)
      | (with_reducible refine LeO.bind ?_ (fun _ => ?_))
      | exact ih0 _ _ _ _ _ _ _
      | exact ih1 _ _ _ _ _ _
      | exact ih2 _ _ _ _ _ _ _
      | exact logbooklaw17_awake.mono _
      | exact logbooklaw17_rows.mono _ _ _ _
      | exact logbookref09_Same.mono _ _ _ _ _ _ _ _ _
      | exact logbookref17_All.mono _ _ _ _
      | exact logbookref17_Whole.mono _ _ _ _
      | exact scan_Places.mono _ _ _ _ _
      | exact scan_Whole.mono _ _ _ _
      | exact LeO.none _
      | refine LeO.ite ?_ ?_
      | refine LeO.bind ?_ (fun _ => ?_)
    · intro y0 y1 y2 y3 y4 y5 y6
      unfold logbooklaw17_ScanObjects.j2
      repeat' first
      | (with_reducible exact ih0 _ _ _ _ _ _ _)
      | (with_reducible exact ih1 _ _ _ _ _ _)
      | (with_reducible exact ih2 _ _ _ _ _ _ _)
      | (with_reducible exact logbooklaw17_awake.mono _)
      | (with_reducible exact logbooklaw17_rows.mono _ _ _ _)
      | (with_reducible exact logbookref09_Same.mono _ _ _ _ _ _ _ _ _)
      | (with_reducible exact logbookref17_All.mono _ _ _ _)
      | (with_reducible exact logbookref17_Whole.mono _ _ _ _)
      | (with_reducible exact scan_Places.mono _ _ _ _ _)
      | (with_reducible exact scan_Whole.mono _ _ _ _)
      | (with_reducible exact LeO.refl _)
      | (with_reducible exact LeO.none _)
      | (with_reducible refine LeO.ite ?_ ?_)
      | (with_reducible refine LeO.bind ?_ (fun _ => ?_))
      | exact ih0 _ _ _ _ _ _ _
      | exact ih1 _ _ _ _ _ _
      | exact ih2 _ _ _ _ _ _ _
      | exact logbooklaw17_awake.mono _
      | exact logbooklaw17_rows.mono _ _ _ _
      | exact logbookref09_Same.mono _ _ _ _ _ _ _ _ _
      | exact logbookref17_All.mono _ _ _ _
      | exact logbookref17_Whole.mono _ _ _ _
      | exact scan_Places.mono _ _ _ _ _
      | exact scan_Whole.mono _ _ _ _
      | exact LeO.none _
      | refine LeO.ite ?_ ?_
      | refine LeO.bind ?_ (fun _ => ?_)
theorem logbooklaw17_ScanObjects.mono : ∀ a0 a1 a2 a3 k, LeO (logbooklaw17_ScanObjects.f k a0 a1 a2 a3) (logbooklaw17_ScanObjects.f (k + 1) a0 a1 a2 a3) := by
  intro a0 a1 a2 a3 k
  obtain ⟨ih0, ih1, ih2⟩ := logbooklaw17_ScanObjects.mono_l k
  unfold logbooklaw17_ScanObjects.f
  repeat' first
      | (with_reducible exact ih0 _ _ _ _ _ _ _)
      | (with_reducible exact ih1 _ _ _ _ _ _)
      | (with_reducible exact ih2 _ _ _ _ _ _ _)
      | (with_reducible exact logbooklaw17_awake.mono _)
      | (with_reducible exact logbooklaw17_rows.mono _ _ _ _)
      | (with_reducible exact logbookref09_Same.mono _ _ _ _ _ _ _ _ _)
      | (with_reducible exact logbookref17_All.mono _ _ _ _)
      | (with_reducible exact logbookref17_Whole.mono _ _ _ _)
      | (with_reducible exact scan_Places.mono _ _ _ _ _)
      | (with_reducible exact scan_Whole.mono _ _ _ _)
      | (with_reducible exact LeO.refl _)
      | (with_reducible exact LeO.none _)
      | (with_reducible refine LeO.ite ?_ ?_)
      | (with_reducible refine LeO.bind ?_ (fun _ => ?_))
      | exact ih0 _ _ _ _ _ _ _
      | exact ih1 _ _ _ _ _ _
      | exact ih2 _ _ _ _ _ _ _
      | exact logbooklaw17_awake.mono _
      | exact logbooklaw17_rows.mono _ _ _ _
      | exact logbookref09_Same.mono _ _ _ _ _ _ _ _ _
      | exact logbookref17_All.mono _ _ _ _
      | exact logbookref17_Whole.mono _ _ _ _
      | exact scan_Places.mono _ _ _ _ _
      | exact scan_Whole.mono _ _ _ _
      | exact LeO.none _
      | refine LeO.ite ?_ ?_
      | refine LeO.bind ?_ (fun _ => ?_)
def logbooklaw17_ScanObjects.T11 : Bool × List (List Nat × List Nat) := (true, [([], []), ([], []), ([0, 1], [0, 1]), ([2], [2]), ([3], [3]), ([], []), ([], []), ([5, 6], [5, 6]), ([7], [7]), ([8], [8]), ([4, 9], [4, 9]), ([10], [10]), ([11], [11]), ([11], [11]), ([12, 13, 11], [11, 12, 13]), ([14, 11], [11, 14]), ([15, 11], [11, 15]), ([11], [11]), ([11], [11]), ([17, 18, 11], [11, 17, 18]), ([19, 11], [11, 19]), ([20, 11], [11, 20]), ([16, 21, 11], [11, 16, 21]), ([11, 22], [11, 22]), ([23, 11], [23]), ([24], [24]), ([24], [24]), ([25, 26, 24], [24, 25, 26]), ([27, 24], [24, 27]), ([28, 24], [24, 28]), ([24], [24]), ([24], [24]), ([30, 31, 24], [24, 30, 31]), ([32, 24], [24, 32]), ([33, 24], [24, 33]), ([29, 34, 24, 24], [24, 29, 34]), ([35, 24], [24, 35]), ([24, 36], [24, 36])])
def logbooklaw17_ScanObjects.B11 : List Nat := [0, 0, 3, 7, 15, 0, 0, 96, 224, 480, 1023, 2047, 4095, 4095, 16383, 32767, 65535, 4095, 4095, 397311, 921599, 1970175, 4194303, 8388607, 16777215, 33554431, 33554431, 134217727, 268435455, 536870911, 33554431, 33554431, 3254779903, 7549747199, 16139681791, 34359738367, 68719476735, 137438953471]
theorem logbooklaw17_ScanObjects.tab11 : rtab .any (opsOf Try.f3 11) = logbooklaw17_ScanObjects.T11 := by kernel_rfl
theorem logbooklaw17_ScanObjects.bits11 : waitsOk logbooklaw17_ScanObjects.T11.2 logbooklaw17_ScanObjects.B11 = true := by kernel_rfl
def logbooklaw17_ScanObjects.T14 : Bool × List (List Nat × List Nat) := (true, [([], []), ([], []), ([1], [1]), ([0, 2], [0, 2]), ([3], [3]), ([4], [4]), ([4], [4]), ([5, 6, 4], [4, 5, 6]), ([7, 4], [4, 7]), ([4], [4]), ([4], [4]), ([9, 10, 4], [4, 9, 10]), ([11, 4], [4, 11]), ([12, 4], [4, 12]), ([8, 13, 4], [4, 8, 13]), ([4, 14], [4, 14])])
def logbooklaw17_ScanObjects.B14 : List Nat := [0, 0, 2, 7, 15, 31, 31, 127, 255, 31, 31, 1567, 3615, 7711, 16383, 32767]
theorem logbooklaw17_ScanObjects.tab14 : rtab .any (opsOf Try.f3 14) = logbooklaw17_ScanObjects.T14 := by kernel_rfl
theorem logbooklaw17_ScanObjects.bits14 : waitsOk logbooklaw17_ScanObjects.T14.2 logbooklaw17_ScanObjects.B14 = true := by kernel_rfl
set_option maxHeartbeats 8000000 in
set_option maxRecDepth 100000 in
theorem logbooklaw17_ScanObjects.calls (k : Nat) (A0 : Option Addr) (c0 : Nat) (l0 : List Int) (a1 : Int) (a2 : Int) (a3 : Int) (r : Bool) (w : World) (hr0 : Kd.C (Kd.int .u8) w A0 l0.length l0) (hc0 : l0.length ≤ c0) (h : logbooklaw17_ScanObjects.f k l0 a1 a2 a3 = some r) :
    Calls Try.prog 3 #[.slice A0 l0.length c0, .int .i64 a1, .int .i64 a2, .int .i64 a3] w fun e w' => e = .returned (.bool r) ∧ Below w.heap.size w w' := by
  have hu31 := Try.underlying31
  have HR0 := Aside0.mk hr0
  have HC0 := Aside0.mk hc0
  clear hr0 hc0
  have HB := Aside0.mk (Below.refl w.heap.size w)
  have H : (if (l0.length : Int) > 3000 then ((logbooklaw17_awake.f k).bind fun t222 => (some t222)) else ((logbooklaw17_rows.f k l0 a1 a2).bind fun t223 => ((logbookref17_All.f k l0 a1 a2).bind fun t226 => (if (t223.length : Int) = (t226.length : Int) then ((scan_Whole.f k l0 a1 a2).bind fun t229 => ((logbookref17_Whole.f k l0 a1 a2).bind fun t230 => (logbooklaw17_ScanObjects.j0 k l0 a1 a2 a3 t223 t226 (t229 != t230)))) else (logbooklaw17_ScanObjects.j0 k l0 a1 a2 a3 t223 t226 true))))) = some r := h
  clear h
  by_cases c5 : (l0.length : Int) > 3000
  · rw [if_pos c5] at H
    have c5b0 : decide (3000 < (l0.length : Int)) = true := decide_eq_true c5
    have c5b1 : decide (3000 < l0.length) = true := decide_eq_true (by omega)
    clear c5
    replace H := Option.bind_eq_some_iff.mp H
    obtain ⟨t222, A60, H⟩ := H
    replace H : (some t222) = some r := H
    have A6 := Aside0.mk A60
    clear A60
    obtain rfl := Option.some.inj H
    go_enter Try.func3, Try.ntmps3
    go_wp2_with (first | ((with_reducible refine gate_callee (f := 5) rfl ?_); refine goesL_ (some 17) rfl rfl Try.func5 (by kernel_rfl) rfl #[] rfl (by (try simp only [List.map_toArray, List.map_cons, List.map_nil]); first | done | rfl | (simp only [List.length_drop, List.length_take]; rfl)) ?_; (with_reducible refine (logbooklaw17_awake.calls k  t222 _ A6.out).mono ?_); rintro e w7 ⟨rfl, hb⟩; refine ⟨_, rfl, ?_⟩; have n0_ := Aside0.mk (below_step (by repeat (first | (with_reducible first | exact HB.out | apply below_alloc | apply pw_below_drewN | apply below_drew1) | exact HB.out)) hb); clear HB; have HB := n0_; clear n0_; (try clear hb); (try clear hb2); (try clear hk); (try clear hi)))
    go_ret
    exact ⟨by first | rfl | (simp [errW_none, errW_some] <;> rfl) | (simp [*, errW_none, errW_some] <;> rfl), by repeat (first | (with_reducible first | exact HB.out | apply below_alloc | apply pw_below_drewN | apply below_drew1) | exact HB.out)⟩
  · rw [if_neg c5] at H
    have c5b0 : decide (3000 < (l0.length : Int)) = false := decide_eq_false c5
    have c5b1 : decide (3000 < l0.length) = false := decide_eq_false (by omega)
    clear c5
    replace H := Option.bind_eq_some_iff.mp H
    obtain ⟨t223, A80, H⟩ := H
    replace H : ((logbookref17_All.f k l0 a1 a2).bind fun t226 => (if (t223.length : Int) = (t226.length : Int) then ((scan_Whole.f k l0 a1 a2).bind fun t229 => ((logbookref17_Whole.f k l0 a1 a2).bind fun t230 => (logbooklaw17_ScanObjects.j0 k l0 a1 a2 a3 t223 t226 (t229 != t230)))) else (logbooklaw17_ScanObjects.j0 k l0 a1 a2 a3 t223 t226 true))) = some r := H
    have A8 := Aside0.mk A80
    clear A80
    replace H := Option.bind_eq_some_iff.mp H
    obtain ⟨t226, A90, H⟩ := H
    replace H : (if (t223.length : Int) = (t226.length : Int) then ((scan_Whole.f k l0 a1 a2).bind fun t229 => ((logbookref17_Whole.f k l0 a1 a2).bind fun t230 => (logbooklaw17_ScanObjects.j0 k l0 a1 a2 a3 t223 t226 (t229 != t230)))) else (logbooklaw17_ScanObjects.j0 k l0 a1 a2 a3 t223 t226 true)) = some r := H
    have A9 := Aside0.mk A90
    clear A90
    have HC10 := Aside0.mk H
    clear H
    go_enter Try.func3, Try.ntmps3
    go_upto_region 4 with (first | ((with_reducible refine gate_callee (f := 6) rfl ?_); refine goesL_ (some 21) rfl rfl Try.func6 (by kernel_rfl) rfl #[.slice A0 l0.length c0, .int .i64 a1, .int .i64 a2] rfl (by (try simp only [List.map_toArray, List.map_cons, List.map_nil]); first | done | rfl | (simp only [List.length_drop, List.length_take]; rfl)) ?_; (with_reducible refine (logbooklaw17_rows.calls k _ _ l0 a1 a2 t223 _ ?side1 ?side2 A8.out).mono ?_); (case side1 => repeat (first | exact HR0.out | (with_reducible refine Kd.C_alloc ?_ _) | (with_reducible refine Kd.C_drewN ?_ _) | (with_reducible refine Kd.C_drew ?_))); (case side2 => exact HC0.out); rintro e w11 ⟨v224, rfl, ho0, hb⟩; refine ⟨_, rfl, ?_⟩; have n0_ := Aside0.mk (Kd.S_lower ho0 (below_size (by repeat (first | (with_reducible first | exact HB.out | apply below_alloc | apply pw_below_drewN | apply below_drew1) | exact HB.out)))); have n1_ := Aside0.mk (below_step (by repeat (first | (with_reducible first | exact HB.out | apply below_alloc | apply pw_below_drewN | apply below_drew1) | exact HB.out)) hb); clear HB; have HO225 := n0_; have HB := n1_; clear n0_ n1_; (try clear hb); (try clear hb2); (try clear hk); (try clear hi); (try clear ho0)) | ((with_reducible refine gate_callee (f := 7) rfl ?_); refine goesL_ (some 25) rfl rfl Try.func7 (by kernel_rfl) rfl #[.slice A0 l0.length c0, .int .i64 a1, .int .i64 a2] rfl (by (try simp only [List.map_toArray, List.map_cons, List.map_nil]); first | done | rfl | (simp only [List.length_drop, List.length_take]; rfl)) ?_; (with_reducible refine (logbookref17_All.calls k _ _ l0 a1 a2 t226 _ ?side1 ?side2 A9.out).mono ?_); (case side1 => repeat (first | exact (Kd.C_below HR0.out HB.out) | (with_reducible refine Kd.C_alloc ?_ _) | (with_reducible refine Kd.C_drewN ?_ _) | (with_reducible refine Kd.C_drew ?_))); (case side2 => exact HC0.out); rintro e w12 ⟨v227, rfl, ho0, hb⟩; refine ⟨_, rfl, ?_⟩; have n0_ := Aside0.mk (Kd.S_elder' (by (with_reducible repeat (first | apply Kd.S_alloc | apply Kd.S_drewN | apply Kd.S_drew)); exact HO225.out) (Kd.S_base ho0) hb); have n1_ := Aside0.mk (Kd.S_lower (Kd.S_new' ho0 (Kd.S_lt (by (with_reducible repeat (first | apply Kd.S_alloc | apply Kd.S_drewN | apply Kd.S_drew)); exact HO225.out))) (below_size (by repeat (first | (with_reducible first | exact HB.out | apply below_alloc | apply pw_below_drewN | apply below_drew1) | exact HB.out)))); have n2_ := Aside0.mk (below_step (by repeat (first | (with_reducible first | exact HB.out | apply below_alloc | apply pw_below_drewN | apply below_drew1) | exact HB.out)) hb); clear HO225; clear HB; have HO225 := n0_; have HO228 := n1_; have HB := n2_; clear n0_ n1_ n2_; (try clear hb); (try clear hb2); (try clear hk); (try clear hi); (try clear ho0)))
    (try simp only [Act.put, List.setIfInBounds_toArray, List.set_cons_zero, List.set_cons_succ])
    go_cut [41] (fun v41 wc => ∃ (kq : Nat) (x41_9 : Bool), v41 = .bool x41_9 ∧ Aside0 (logbooklaw17_ScanObjects.j0 kq l0 a1 a2 a3 t223 t226 x41_9 = some r) ∧ Aside0 (kq ≤ k) ∧ Aside0 (Kd.S k33 33 wc w.heap.size (fun k_ => some k_ ≠ (v227 : Value).ownBlock) v224 t223) ∧ Aside0 (Kd.S k33 33 wc w.heap.size (fun k_ => some k_ ≠ (v224 : Value).ownBlock) v227 t226) ∧ Aside0 (Below w.heap.size w wc))
    case first =>
      have H := HC10.out
      clear HC10
      by_cases c13 : (t223.length : Int) = (t226.length : Int)
      · rw [if_pos c13] at H
        have c13b0 : ((t223.length : Int) == (t226.length : Int)) = true := beq_iff_eq.mpr c13
        have c13b1 : ((t223.length : Int) != (t226.length : Int)) = false := bne_eq_false_iff_eq.mpr c13
        have c13b2 : (t223.length == t226.length) = true := by first | simpa using c13 | (simp at c13 ⊢; omega)
        clear c13
        (first | rw [c13b0] | (simp only [i64_w, i32_w]; rw [c13b0]) | skip)
        replace H := Option.bind_eq_some_iff.mp H
        obtain ⟨t229, A140, H⟩ := H
        replace H : ((logbookref17_Whole.f k l0 a1 a2).bind fun t230 => (logbooklaw17_ScanObjects.j0 k l0 a1 a2 a3 t223 t226 (t229 != t230))) = some r := H
        have A14 := Aside0.mk A140
        clear A140
        replace H := Option.bind_eq_some_iff.mp H
        obtain ⟨t230, A150, H⟩ := H
        replace H : (logbooklaw17_ScanObjects.j0 k l0 a1 a2 a3 t223 t226 (t229 != t230)) = some r := H
        have A15 := Aside0.mk A150
        clear A150
        have H' := Aside0.mk H
        clear H
        obtain ⟨Ao16, co16, eo16⟩ := Kd.S_slice HO225.out
        subst eo16
        obtain ⟨Ao17, co17, eo17⟩ := Kd.S_slice HO228.out
        subst eo17
        go_wp2_with (first | (go_at_call 8; (with_reducible refine (scan_Whole.calls k _ _ l0 a1 a2 t229 _ ?side1 ?side2 A14.out).mono ?_); (case side1 => repeat (first | exact (Kd.C_below HR0.out HB.out) | (with_reducible refine Kd.C_alloc ?_ _) | (with_reducible refine Kd.C_drewN ?_ _) | (with_reducible refine Kd.C_drew ?_))); (case side2 => exact HC0.out); rintro e w18 ⟨rfl, hb⟩; have n0_ := Aside0.mk (Kd.S_below (by (with_reducible repeat (first | apply Kd.S_alloc | apply Kd.S_drewN | apply Kd.S_drew)); exact HO225.out) hb); have n1_ := Aside0.mk (Kd.S_below (by (with_reducible repeat (first | apply Kd.S_alloc | apply Kd.S_drewN | apply Kd.S_drew)); exact HO228.out) hb); have n2_ := Aside0.mk (below_step (by repeat (first | (with_reducible first | exact HB.out | apply below_alloc | apply pw_below_drewN | apply below_drew1) | exact HB.out)) hb); clear HO225; clear HO228; clear HB; have HO225 := n0_; have HO228 := n1_; have HB := n2_; clear n0_ n1_ n2_; (try clear hb); (try clear hb2); (try clear hk); (try clear hi)) | (go_at_call 9; (with_reducible refine (logbookref17_Whole.calls k _ _ l0 a1 a2 t230 _ ?side1 ?side2 A15.out).mono ?_); (case side1 => repeat (first | exact (Kd.C_below HR0.out HB.out) | (with_reducible refine Kd.C_alloc ?_ _) | (with_reducible refine Kd.C_drewN ?_ _) | (with_reducible refine Kd.C_drew ?_))); (case side2 => exact HC0.out); rintro e w19 ⟨rfl, hb⟩; have n0_ := Aside0.mk (Kd.S_below (by (with_reducible repeat (first | apply Kd.S_alloc | apply Kd.S_drewN | apply Kd.S_drew)); exact HO225.out) hb); have n1_ := Aside0.mk (Kd.S_below (by (with_reducible repeat (first | apply Kd.S_alloc | apply Kd.S_drewN | apply Kd.S_drew)); exact HO228.out) hb); have n2_ := Aside0.mk (below_step (by repeat (first | (with_reducible first | exact HB.out | apply below_alloc | apply pw_below_drewN | apply below_drew1) | exact HB.out)) hb); clear HO225; clear HO228; clear HB; have HO225 := n0_; have HO228 := n1_; have HB := n2_; clear n0_ n1_ n2_; (try clear hb); (try clear hb2); (try clear hk); (try clear hi)))
        go_meet
        case rel => exact ⟨_, ((t229 != t230)), (by first | rfl | (simp; done) | (simp [*]; done) | exact isEmpty_bne _), H', ⟨by first | omega | exact Nat.le_refl _⟩, ⟨by (with_reducible repeat (first | apply Kd.S_alloc | apply Kd.S_drewN | apply Kd.S_drew)); exact Kd.S_mono HO225.out (fun _ hk => hk.2)⟩, ⟨by (with_reducible repeat (first | apply Kd.S_alloc | apply Kd.S_drewN | apply Kd.S_drew)); exact Kd.S_mono HO228.out (fun _ hk => hk.2)⟩, ⟨by repeat (first | (with_reducible first | exact HB.out | apply below_alloc | apply pw_below_drewN | apply below_drew1) | exact HB.out)⟩⟩
      · rw [if_neg c13] at H
        have c13b0 : ((t223.length : Int) == (t226.length : Int)) = false := beq_eq_false_iff_ne.mpr c13
        have c13b1 : ((t223.length : Int) != (t226.length : Int)) = true := bne_iff_ne.mpr c13
        have c13b2 : (t223.length == t226.length) = false := by first | simpa using c13 | (simp at c13 ⊢; omega)
        (first | rw [c13b0] | (simp only [i64_w, i32_w]; rw [c13b0]) | skip)
        have H' := Aside0.mk H
        clear H
        obtain ⟨Ao20, co20, eo20⟩ := Kd.S_slice HO225.out
        subst eo20
        obtain ⟨Ao21, co21, eo21⟩ := Kd.S_slice HO228.out
        subst eo21
        go_wp2
        go_meet
        case rel => exact ⟨_, (true), (by first | rfl | (simp; done) | (simp [*]; done) | exact isEmpty_bne _), H', ⟨by first | omega | exact Nat.le_refl _⟩, ⟨by (with_reducible repeat (first | apply Kd.S_alloc | apply Kd.S_drewN | apply Kd.S_drew)); exact Kd.S_mono HO225.out (fun _ hk => hk.2)⟩, ⟨by (with_reducible repeat (first | apply Kd.S_alloc | apply Kd.S_drewN | apply Kd.S_drew)); exact Kd.S_mono HO228.out (fun _ hk => hk.2)⟩, ⟨by repeat (first | (with_reducible first | exact HB.out | apply below_alloc | apply pw_below_drewN | apply below_drew1) | exact HB.out)⟩⟩
    case rest =>
      clear HC10
      try clear c1
      try clear p2
      try clear c3
      try clear c5
      try clear c5b0
      try clear c5b1
      try clear c6
      try clear c7
      try clear c13
      try clear c13b0
      try clear c13b1
      try clear c13b2
      obtain ⟨kq, x41_9, rfl, HA, HJ9, HO_9, HO_10, HB⟩ := hcut
      cases kq with
      | zero => exact absurd HA.out (by simp [logbooklaw17_ScanObjects.j0])
      | succ kj9 =>
        have H := HA.out
        clear HA
        simp only [logbooklaw17_ScanObjects.j0] at H
        by_cases c22 : x41_9 = true
        · subst c22
          have H1 : (some false) = some r := by rw [if_pos rfl] at H; exact H
          clear H
          have H := H1
          clear H1
          obtain rfl := Option.some.inj H
          go_wp2
          go_ret
          exact ⟨by first | rfl | (simp [errW_none, errW_some] <;> rfl) | (simp [*, errW_none, errW_some] <;> rfl), by repeat (first | (with_reducible first | exact HB.out | apply below_alloc | apply pw_below_drewN | apply below_drew1) | exact HB.out)⟩
        · replace c22 := Bool.eq_false_iff.mpr c22
          subst c22
          have H1 : ((scan_Places.f kj9 l0 a1 a2 a3).bind fun t231 => (logbooklaw17_ScanObjects.l0 kj9 a3 t223 t226 t231 0 0)) = some r := by rw [if_neg (show ¬ (false = true) by decide)] at H; exact H
          clear H
          have H := H1
          clear H1
          replace H := Option.bind_eq_some_iff.mp H
          obtain ⟨t231, A230, H⟩ := H
          replace H : (logbooklaw17_ScanObjects.l0 kj9 a3 t223 t226 t231 0 0) = some r := H
          have A23 := Aside0.mk A230
          clear A230
          have H' := Aside0.mk H
          clear H
          go_wp2_with (first | ((with_reducible refine gate_callee (f := 10) rfl ?_); refine goesL_ (some 46) rfl rfl Try.func10 (by kernel_rfl) rfl #[.slice A0 l0.length c0, .int .i64 a1, .int .i64 a2, .int .i64 a3] rfl (by (try simp only [List.map_toArray, List.map_cons, List.map_nil]); first | done | rfl | (simp only [List.length_drop, List.length_take]; rfl)) ?_; (with_reducible refine (scan_Places.calls kj9 _ _ l0 a1 a2 a3 t231 _ ?side1 ?side2 A23.out).mono ?_); (case side1 => repeat (first | exact (Kd.C_below HR0.out HB.out) | (with_reducible refine Kd.C_alloc ?_ _) | (with_reducible refine Kd.C_drewN ?_ _) | (with_reducible refine Kd.C_drew ?_))); (case side2 => exact HC0.out); rintro e w24 ⟨v232, rfl, ho0, hb⟩; refine ⟨_, rfl, ?_⟩; have n0_ := Aside0.mk (Kd.S_below (by (with_reducible repeat (first | apply Kd.S_alloc | apply Kd.S_drewN | apply Kd.S_drew)); exact HO_9.out) hb); have n1_ := Aside0.mk (Kd.S_below (by (with_reducible repeat (first | apply Kd.S_alloc | apply Kd.S_drewN | apply Kd.S_drew)); exact HO_10.out) hb); have n2_ := Aside0.mk (Kd.R_lower ho0 (below_size (by repeat (first | (with_reducible first | exact HB.out | apply below_alloc | apply pw_below_drewN | apply below_drew1) | exact HB.out)))); have n3_ := Aside0.mk (below_step (by repeat (first | (with_reducible first | exact HB.out | apply below_alloc | apply pw_below_drewN | apply below_drew1) | exact HB.out)) hb); clear HO_9; clear HO_10; clear HB; have HO_9 := n0_; have HO_10 := n1_; have HO233 := n2_; have HB := n3_; clear n0_ n1_ n2_ n3_; (try clear hb); (try clear hb2); (try clear hk); (try clear hi); (try clear ho0)))
          go_loopg [12, 13] kj9 (fun kq v12 v13 w' => ∃ (x12_2 : Int) (x13_2 : Int), v12 = .int .i64 x12_2 ∧ v13 = .int .i64 x13_2 ∧ Aside0 (logbooklaw17_ScanObjects.l0 kq a3 t223 t226 t231 x12_2 x13_2 = some r) ∧ Aside0 (kq ≤ kj9) ∧ Aside0 (Kd.S k33 33 w' w.heap.size (fun k_ => some k_ ≠ (v227 : Value).ownBlock) v224 t223) ∧ Aside0 (Kd.S k33 33 w' w.heap.size (fun k_ => some k_ ≠ (v224 : Value).ownBlock) v227 t226) ∧ Aside0 (Kd.R (Kd.int .i64) 3 w' w.heap.size (fun _ => True) v232 t231) ∧ Aside0 (Below w.heap.size w w'))
          case atStart => exact ⟨(0), (0), (by first | rfl | (simp; done) | (simp [*]; done) | exact isEmpty_bne _), (by first | rfl | (simp; done) | (simp [*]; done) | exact isEmpty_bne _), H', ⟨Nat.le_refl _⟩, ⟨by (with_reducible repeat (first | apply Kd.S_alloc | apply Kd.S_drewN | apply Kd.S_drew)); exact HO_9.out⟩, ⟨by (with_reducible repeat (first | apply Kd.S_alloc | apply Kd.S_drewN | apply Kd.S_drew)); exact HO_10.out⟩, ⟨by (with_reducible repeat (first | apply Kd.R_alloc | apply Kd.R_drewN | apply Kd.R_drew)); exact HO233.out⟩, ⟨by repeat (first | (with_reducible first | exact HB.out | apply below_alloc | apply pw_below_drewN | apply below_drew1) | exact HB.out)⟩⟩
          case round =>
            clear H'
            try clear c1
            try clear c2
            try clear p2
            try clear c3
            try clear c5
            try clear c5b0
            try clear c5b1
            try clear c6
            try clear c7
            try clear c10
            try clear c13
            try clear c13b0
            try clear c13b1
            try clear c13b2
            try clear c22
            try clear p2
            obtain ⟨x12_2, x13_2, rfl, rfl, HA, HK2, HO_9, HO_10, HO_11, HB⟩ := hrel
            cases gk with
            | zero => exact absurd HA.out (by simp [logbooklaw17_ScanObjects.l0])
            | succ k2 =>
              have H := HA.out
              clear HA
              simp only [logbooklaw17_ScanObjects.l0] at H
              by_cases c25 : x13_2 < (t223.length : Int)
              · rw [if_pos c25] at H
                have c25b0 : decide (x13_2 < (t223.length : Int)) = true := decide_eq_true c25
                clear c25
                have HC26 := Aside0.mk H
                clear H
                obtain ⟨Ao27, co27, eo27⟩ := Kd.S_slice HO_9.out
                subst eo27
                go_upto_region 11 with (fail)
                go_cut [90] (fun v90 wc => ∃ (kq : Nat) (x90_25 : Bool), v90 = .bool x90_25 ∧ Aside0 (logbooklaw17_ScanObjects.j2 kq a3 t223 t226 t231 x12_2 x13_2 x90_25 = some r) ∧ Aside0 (kq ≤ k2) ∧ Aside0 (Kd.S k33 33 wc w.heap.size (fun k_ => some k_ ≠ (v227 : Value).ownBlock) (.slice Ao27 t223.length co27) t223) ∧ Aside0 (Kd.S k33 33 wc w.heap.size (fun k_ => some k_ ≠ ((.slice Ao27 t223.length co27) : Value).ownBlock) v227 t226) ∧ Aside0 (Kd.R (Kd.int .i64) 3 wc w.heap.size (fun _ => True) v232 t231) ∧ Aside0 (Below w.heap.size w wc))
                case first =>
                  have H := HC26.out
                  clear HC26
                  by_cases c28 : 0 ≤ x13_2
                  · rw [if_pos c28] at H
                    have c28b0 : decide (0 ≤ x13_2) = true := decide_eq_true c28
                    clear c28
                    (first | rw [c28b0] | (simp only [i64_w, i32_w]; rw [c28b0]) | skip)
                    by_cases c29 : x13_2 < (t226.length : Int)
                    · rw [if_pos c29] at H
                      have c29b0 : decide (x13_2 < (t226.length : Int)) = true := decide_eq_true c29
                      clear c29
                      by_cases c30 : ((rd_T33 t223 x13_2).f0) = ((rd_T33 t226 x13_2).f0)
                      · rw [if_pos c30] at H
                        have c30b0 : (((rd_T33 t223 x13_2).f0) == ((rd_T33 t226 x13_2).f0)) = true := beq_iff_eq.mpr c30
                        have c30b1 : (((rd_T33 t223 x13_2).f0) != ((rd_T33 t226 x13_2).f0)) = false := bne_eq_false_iff_eq.mpr c30
                        clear c30
                        by_cases c31 : ((rd_T33 t223 x13_2).f1) = ((rd_T33 t226 x13_2).f1)
                        · rw [if_pos c31] at H
                          have c31b0 : (((rd_T33 t223 x13_2).f1) == ((rd_T33 t226 x13_2).f1)) = true := beq_iff_eq.mpr c31
                          have c31b1 : (((rd_T33 t223 x13_2).f1) != ((rd_T33 t226 x13_2).f1)) = false := bne_eq_false_iff_eq.mpr c31
                          clear c31
                          replace H := Option.bind_eq_some_iff.mp H
                          obtain ⟨t241, A320, H⟩ := H
                          replace H : (logbooklaw17_ScanObjects.j2 k2 a3 t223 t226 t231 x12_2 x13_2 (!t241)) = some r := H
                          have A32 := Aside0.mk A320
                          clear A320
                          have H' := Aside0.mk H
                          clear H
                          try go_wp2
                          have n0_ := Aside0.mk (Kd.S_drew HO_9.out)
                          have n1_ := Aside0.mk (Kd.S_drew HO_10.out)
                          have n2_ := Aside0.mk (Kd.R_drew HO_11.out)
                          have n3_ := Aside0.mk (below_drew1 HB.out)
                          clear HO_9
                          clear HO_10
                          clear HO_11
                          clear HB
                          have HO_9 := n0_
                          have HO_10 := n1_
                          have HO_11 := n2_
                          have HB := n3_
                          clear n0_ n1_ n2_ n3_
                          have p235 : 0 ≤ (x13_2 : Int) := of_decide_eq_true (by first | (with_reducible assumption) | assumption)
                          have q235 : x13_2 < (t223.length : Int) := of_decide_eq_true (by first | (with_reducible assumption) | assumption)
                          try (obtain ⟨Az_, cz_, ez_⟩ := Kd.S_slice HO_9.out; subst ez_)
                          obtain ⟨ad235, A235_3, c235_3, A235_4, c235_4, A235_5, c235_5, e235, hx235_0, hx235_1, hx235_2, hx235_3, hx235_4, hx235_5, hl235_3, hi235_3, hl235_4, hi235_4, hl235_5, hi235_5⟩ := at_T33 (Kd.S_reads' HO_9.out).2.2 x13_2 p235 q235
                          cases e235
                          obtain ⟨ce235, hce235, hMe235, hcc235⟩ := Kd.S_get HO_9.out z33 x13_2 p235 (by first | exact q235 | exact of_decide_eq_true (by first | (with_reducible assumption) | assumption) | (have e_ := (Kd.S_reads' HO_9.out).1; omega))
                          obtain ⟨ve235_3, ve235_4, ve235_5, rfl, ge235_3, ge235_4, ge235_5⟩ := k33_openM hMe235
                          have hv235_3 := hcc235 3 _ rfl
                          rw [add_field _ _ 3 (by omega)] at hv235_3
                          replace hv235_3 := Option.some.inj (hv235_3.symm.trans hx235_3)
                          rw [hv235_3] at ge235_3
                          have HL235_3 := Aside0.mk (show Kd.R (Kd.int .u64) 47 _ _ _ _ ((rd_T33 t223 x13_2).f2.f1) from ge235_3)
                          clear hv235_3 ge235_3
                          have hv235_4 := hcc235 4 _ rfl
                          rw [add_field _ _ 4 (by omega)] at hv235_4
                          replace hv235_4 := Option.some.inj (hv235_4.symm.trans hx235_4)
                          rw [hv235_4] at ge235_4
                          have HL235_4 := Aside0.mk (show Kd.R (Kd.int .u8) 5 _ _ _ _ ((rd_T33 t223 x13_2).f2.f2) from ge235_4)
                          clear hv235_4 ge235_4
                          have hv235_5 := hcc235 5 _ rfl
                          rw [add_field _ _ 5 (by omega)] at hv235_5
                          replace hv235_5 := Option.some.inj (hv235_5.symm.trans hx235_5)
                          rw [hv235_5] at ge235_5
                          have HL235_5 := Aside0.mk (show Kd.R (Kd.int .u64) 47 _ _ _ _ ((rd_T33 t223 x13_2).f2.f3) from ge235_5)
                          clear hv235_5 ge235_5
                          clear hcc235 hce235
                          have HR235_3 := Aside0.mk hi235_3
                          have HC235_3 := Aside0.mk hl235_3
                          clear hi235_3 hl235_3
                          have HR235_4 := Aside0.mk hi235_4
                          have HC235_4 := Aside0.mk hl235_4
                          clear hi235_4 hl235_4
                          have HR235_5 := Aside0.mk hi235_5
                          have HC235_5 := Aside0.mk hl235_5
                          clear hi235_5 hl235_5
                          replace p235 := eq_true p235
                          replace q235 := eq_true q235
                          (try (have ea_ := Option.some.inj (HS3_.symm.trans hx235_3); injection ea_ with ea_ en_ ec_; subst ea_; subst ec_; clear en_))
                          (try (have ea_ := Option.some.inj (HS4_.symm.trans hx235_4); injection ea_ with ea_ en_ ec_; subst ea_; subst ec_; clear en_))
                          (try (have ea_ := Option.some.inj (HS5_.symm.trans hx235_5); injection ea_ with ea_ en_ ec_; subst ea_; subst ec_; clear en_))
                          obtain ⟨Ao34, co34, eo34⟩ := Kd.S_slice HO_10.out
                          (first | subst eo34 | (injection eo34 with f1_ f2_ f3_; have f4_ := f1_.symm; have f5_ := f3_.symm; clear f1_ f2_ f3_; subst f4_; subst f5_))
                          have p236 : 0 ≤ (x13_2 : Int) := of_decide_eq_true (by first | (with_reducible assumption) | assumption)
                          have q236 : x13_2 < (t226.length : Int) := of_decide_eq_true (by first | (with_reducible assumption) | assumption)
                          try (obtain ⟨Az_, cz_, ez_⟩ := Kd.S_slice HO_10.out; subst ez_)
                          obtain ⟨ad236, A236_3, c236_3, A236_4, c236_4, A236_5, c236_5, e236, hx236_0, hx236_1, hx236_2, hx236_3, hx236_4, hx236_5, hl236_3, hi236_3, hl236_4, hi236_4, hl236_5, hi236_5⟩ := at_T33 (Kd.S_reads' HO_10.out).2.2 x13_2 p236 q236
                          cases e236
                          obtain ⟨ce236, hce236, hMe236, hcc236⟩ := Kd.S_get HO_10.out z33 x13_2 p236 (by first | exact q236 | exact of_decide_eq_true (by first | (with_reducible assumption) | assumption) | (have e_ := (Kd.S_reads' HO_10.out).1; omega))
                          obtain ⟨ve236_3, ve236_4, ve236_5, rfl, ge236_3, ge236_4, ge236_5⟩ := k33_openM hMe236
                          have hv236_3 := hcc236 3 _ rfl
                          rw [add_field _ _ 3 (by omega)] at hv236_3
                          replace hv236_3 := Option.some.inj (hv236_3.symm.trans hx236_3)
                          rw [hv236_3] at ge236_3
                          have HL236_3 := Aside0.mk (show Kd.R (Kd.int .u64) 47 _ _ _ _ ((rd_T33 t226 x13_2).f2.f1) from ge236_3)
                          clear hv236_3 ge236_3
                          have hv236_4 := hcc236 4 _ rfl
                          rw [add_field _ _ 4 (by omega)] at hv236_4
                          replace hv236_4 := Option.some.inj (hv236_4.symm.trans hx236_4)
                          rw [hv236_4] at ge236_4
                          have HL236_4 := Aside0.mk (show Kd.R (Kd.int .u8) 5 _ _ _ _ ((rd_T33 t226 x13_2).f2.f2) from ge236_4)
                          clear hv236_4 ge236_4
                          have hv236_5 := hcc236 5 _ rfl
                          rw [add_field _ _ 5 (by omega)] at hv236_5
                          replace hv236_5 := Option.some.inj (hv236_5.symm.trans hx236_5)
                          rw [hv236_5] at ge236_5
                          have HL236_5 := Aside0.mk (show Kd.R (Kd.int .u64) 47 _ _ _ _ ((rd_T33 t226 x13_2).f2.f3) from ge236_5)
                          clear hv236_5 ge236_5
                          clear hcc236 hce236
                          have HR236_3 := Aside0.mk hi236_3
                          have HC236_3 := Aside0.mk hl236_3
                          clear hi236_3 hl236_3
                          have HR236_4 := Aside0.mk hi236_4
                          have HC236_4 := Aside0.mk hl236_4
                          clear hi236_4 hl236_4
                          have HR236_5 := Aside0.mk hi236_5
                          have HC236_5 := Aside0.mk hl236_5
                          clear hi236_5 hl236_5
                          replace p236 := eq_true p236
                          replace q236 := eq_true q236
                          (try (have ea_ := Option.some.inj (HS3_.symm.trans hx236_3); injection ea_ with ea_ en_ ec_; subst ea_; subst ec_; clear en_))
                          (try (have ea_ := Option.some.inj (HS4_.symm.trans hx236_4); injection ea_ with ea_ en_ ec_; subst ea_; subst ec_; clear en_))
                          (try (have ea_ := Option.some.inj (HS5_.symm.trans hx236_5); injection ea_ with ea_ en_ ec_; subst ea_; subst ec_; clear en_))
                          have p237 : 0 ≤ (x13_2 : Int) := of_decide_eq_true (by first | (with_reducible assumption) | assumption)
                          have q237 : x13_2 < (t223.length : Int) := of_decide_eq_true (by first | (with_reducible assumption) | assumption)
                          try (obtain ⟨Az_, cz_, ez_⟩ := Kd.S_slice HO_9.out; subst ez_)
                          obtain ⟨ad237, A237_3, c237_3, A237_4, c237_4, A237_5, c237_5, e237, hx237_0, hx237_1, hx237_2, hx237_3, hx237_4, hx237_5, hl237_3, hi237_3, hl237_4, hi237_4, hl237_5, hi237_5⟩ := at_T33 (Kd.S_reads' HO_9.out).2.2 x13_2 p237 q237
                          obtain rfl : ad235 = ad237 := (by injection e237)
                          obtain ⟨ce237, hce237, hMe237, hcc237⟩ := Kd.S_get HO_9.out z33 x13_2 p237 (by first | exact q237 | exact of_decide_eq_true (by first | (with_reducible assumption) | assumption) | (have e_ := (Kd.S_reads' HO_9.out).1; omega))
                          obtain ⟨ve237_3, ve237_4, ve237_5, rfl, ge237_3, ge237_4, ge237_5⟩ := k33_openM hMe237
                          have hv237_3 := hcc237 3 _ rfl
                          rw [add_field _ _ 3 (by omega)] at hv237_3
                          replace hv237_3 := Option.some.inj (hv237_3.symm.trans hx237_3)
                          rw [hv237_3] at ge237_3
                          have HL237_3 := Aside0.mk (show Kd.R (Kd.int .u64) 47 _ _ _ _ ((rd_T33 t223 x13_2).f2.f1) from ge237_3)
                          clear hv237_3 ge237_3
                          have hv237_4 := hcc237 4 _ rfl
                          rw [add_field _ _ 4 (by omega)] at hv237_4
                          replace hv237_4 := Option.some.inj (hv237_4.symm.trans hx237_4)
                          rw [hv237_4] at ge237_4
                          have HL237_4 := Aside0.mk (show Kd.R (Kd.int .u8) 5 _ _ _ _ ((rd_T33 t223 x13_2).f2.f2) from ge237_4)
                          clear hv237_4 ge237_4
                          have hv237_5 := hcc237 5 _ rfl
                          rw [add_field _ _ 5 (by omega)] at hv237_5
                          replace hv237_5 := Option.some.inj (hv237_5.symm.trans hx237_5)
                          rw [hv237_5] at ge237_5
                          have HL237_5 := Aside0.mk (show Kd.R (Kd.int .u64) 47 _ _ _ _ ((rd_T33 t223 x13_2).f2.f3) from ge237_5)
                          clear hv237_5 ge237_5
                          clear hcc237 hce237
                          have HR237_3 := Aside0.mk hi237_3
                          have HC237_3 := Aside0.mk hl237_3
                          clear hi237_3 hl237_3
                          have HR237_4 := Aside0.mk hi237_4
                          have HC237_4 := Aside0.mk hl237_4
                          clear hi237_4 hl237_4
                          have HR237_5 := Aside0.mk hi237_5
                          have HC237_5 := Aside0.mk hl237_5
                          clear hi237_5 hl237_5
                          replace p237 := eq_true p237
                          replace q237 := eq_true q237
                          (try (have ea_ := Option.some.inj (HS3_.symm.trans hx237_3); injection ea_ with ea_ en_ ec_; subst ea_; subst ec_; clear en_))
                          (try (have ea_ := Option.some.inj (HS4_.symm.trans hx237_4); injection ea_ with ea_ en_ ec_; subst ea_; subst ec_; clear en_))
                          (try (have ea_ := Option.some.inj (HS5_.symm.trans hx237_5); injection ea_ with ea_ en_ ec_; subst ea_; subst ec_; clear en_))
                          have ea_ := Option.some.inj (hx235_3.symm.trans hx237_3)
                          injection ea_ with ea_ en_ ec_
                          subst ea_
                          subst ec_
                          clear en_
                          have ea_ := Option.some.inj (hx235_4.symm.trans hx237_4)
                          injection ea_ with ea_ en_ ec_
                          subst ea_
                          subst ec_
                          clear en_
                          have ea_ := Option.some.inj (hx235_5.symm.trans hx237_5)
                          injection ea_ with ea_ en_ ec_
                          subst ea_
                          subst ec_
                          clear en_
                          have p238 : 0 ≤ (x13_2 : Int) := of_decide_eq_true (by first | (with_reducible assumption) | assumption)
                          have q238 : x13_2 < (t226.length : Int) := of_decide_eq_true (by first | (with_reducible assumption) | assumption)
                          try (obtain ⟨Az_, cz_, ez_⟩ := Kd.S_slice HO_10.out; subst ez_)
                          obtain ⟨ad238, A238_3, c238_3, A238_4, c238_4, A238_5, c238_5, e238, hx238_0, hx238_1, hx238_2, hx238_3, hx238_4, hx238_5, hl238_3, hi238_3, hl238_4, hi238_4, hl238_5, hi238_5⟩ := at_T33 (Kd.S_reads' HO_10.out).2.2 x13_2 p238 q238
                          obtain rfl : ad236 = ad238 := (by injection e238)
                          obtain ⟨ce238, hce238, hMe238, hcc238⟩ := Kd.S_get HO_10.out z33 x13_2 p238 (by first | exact q238 | exact of_decide_eq_true (by first | (with_reducible assumption) | assumption) | (have e_ := (Kd.S_reads' HO_10.out).1; omega))
                          obtain ⟨ve238_3, ve238_4, ve238_5, rfl, ge238_3, ge238_4, ge238_5⟩ := k33_openM hMe238
                          have hv238_3 := hcc238 3 _ rfl
                          rw [add_field _ _ 3 (by omega)] at hv238_3
                          replace hv238_3 := Option.some.inj (hv238_3.symm.trans hx238_3)
                          rw [hv238_3] at ge238_3
                          have HL238_3 := Aside0.mk (show Kd.R (Kd.int .u64) 47 _ _ _ _ ((rd_T33 t226 x13_2).f2.f1) from ge238_3)
                          clear hv238_3 ge238_3
                          have hv238_4 := hcc238 4 _ rfl
                          rw [add_field _ _ 4 (by omega)] at hv238_4
                          replace hv238_4 := Option.some.inj (hv238_4.symm.trans hx238_4)
                          rw [hv238_4] at ge238_4
                          have HL238_4 := Aside0.mk (show Kd.R (Kd.int .u8) 5 _ _ _ _ ((rd_T33 t226 x13_2).f2.f2) from ge238_4)
                          clear hv238_4 ge238_4
                          have hv238_5 := hcc238 5 _ rfl
                          rw [add_field _ _ 5 (by omega)] at hv238_5
                          replace hv238_5 := Option.some.inj (hv238_5.symm.trans hx238_5)
                          rw [hv238_5] at ge238_5
                          have HL238_5 := Aside0.mk (show Kd.R (Kd.int .u64) 47 _ _ _ _ ((rd_T33 t226 x13_2).f2.f3) from ge238_5)
                          clear hv238_5 ge238_5
                          clear hcc238 hce238
                          have HR238_3 := Aside0.mk hi238_3
                          have HC238_3 := Aside0.mk hl238_3
                          clear hi238_3 hl238_3
                          have HR238_4 := Aside0.mk hi238_4
                          have HC238_4 := Aside0.mk hl238_4
                          clear hi238_4 hl238_4
                          have HR238_5 := Aside0.mk hi238_5
                          have HC238_5 := Aside0.mk hl238_5
                          clear hi238_5 hl238_5
                          replace p238 := eq_true p238
                          replace q238 := eq_true q238
                          (try (have ea_ := Option.some.inj (HS3_.symm.trans hx238_3); injection ea_ with ea_ en_ ec_; subst ea_; subst ec_; clear en_))
                          (try (have ea_ := Option.some.inj (HS4_.symm.trans hx238_4); injection ea_ with ea_ en_ ec_; subst ea_; subst ec_; clear en_))
                          (try (have ea_ := Option.some.inj (HS5_.symm.trans hx238_5); injection ea_ with ea_ en_ ec_; subst ea_; subst ec_; clear en_))
                          have ea_ := Option.some.inj (hx236_3.symm.trans hx238_3)
                          injection ea_ with ea_ en_ ec_
                          subst ea_
                          subst ec_
                          clear en_
                          have ea_ := Option.some.inj (hx236_4.symm.trans hx238_4)
                          injection ea_ with ea_ en_ ec_
                          subst ea_
                          subst ec_
                          clear en_
                          have ea_ := Option.some.inj (hx236_5.symm.trans hx238_5)
                          injection ea_ with ea_ en_ ec_
                          subst ea_
                          subst ec_
                          clear en_
                          have p239 : 0 ≤ (x13_2 : Int) := of_decide_eq_true (by first | (with_reducible assumption) | assumption)
                          have q239 : x13_2 < (t223.length : Int) := of_decide_eq_true (by first | (with_reducible assumption) | assumption)
                          try (obtain ⟨Az_, cz_, ez_⟩ := Kd.S_slice HO_9.out; subst ez_)
                          obtain ⟨ad239, A239_3, c239_3, A239_4, c239_4, A239_5, c239_5, e239, hx239_0, hx239_1, hx239_2, hx239_3, hx239_4, hx239_5, hl239_3, hi239_3, hl239_4, hi239_4, hl239_5, hi239_5⟩ := at_T33 (Kd.S_reads' HO_9.out).2.2 x13_2 p239 q239
                          obtain rfl : ad235 = ad239 := (by injection e239)
                          obtain ⟨ce239, hce239, hMe239, hcc239⟩ := Kd.S_get HO_9.out z33 x13_2 p239 (by first | exact q239 | exact of_decide_eq_true (by first | (with_reducible assumption) | assumption) | (have e_ := (Kd.S_reads' HO_9.out).1; omega))
                          obtain ⟨ve239_3, ve239_4, ve239_5, rfl, ge239_3, ge239_4, ge239_5⟩ := k33_openM hMe239
                          have hv239_3 := hcc239 3 _ rfl
                          rw [add_field _ _ 3 (by omega)] at hv239_3
                          replace hv239_3 := Option.some.inj (hv239_3.symm.trans hx239_3)
                          rw [hv239_3] at ge239_3
                          have HL239_3 := Aside0.mk (show Kd.R (Kd.int .u64) 47 _ _ _ _ ((rd_T33 t223 x13_2).f2.f1) from ge239_3)
                          clear hv239_3 ge239_3
                          have hv239_4 := hcc239 4 _ rfl
                          rw [add_field _ _ 4 (by omega)] at hv239_4
                          replace hv239_4 := Option.some.inj (hv239_4.symm.trans hx239_4)
                          rw [hv239_4] at ge239_4
                          have HL239_4 := Aside0.mk (show Kd.R (Kd.int .u8) 5 _ _ _ _ ((rd_T33 t223 x13_2).f2.f2) from ge239_4)
                          clear hv239_4 ge239_4
                          have hv239_5 := hcc239 5 _ rfl
                          rw [add_field _ _ 5 (by omega)] at hv239_5
                          replace hv239_5 := Option.some.inj (hv239_5.symm.trans hx239_5)
                          rw [hv239_5] at ge239_5
                          have HL239_5 := Aside0.mk (show Kd.R (Kd.int .u64) 47 _ _ _ _ ((rd_T33 t223 x13_2).f2.f3) from ge239_5)
                          clear hv239_5 ge239_5
                          clear hcc239 hce239
                          have HR239_3 := Aside0.mk hi239_3
                          have HC239_3 := Aside0.mk hl239_3
                          clear hi239_3 hl239_3
                          have HR239_4 := Aside0.mk hi239_4
                          have HC239_4 := Aside0.mk hl239_4
                          clear hi239_4 hl239_4
                          have HR239_5 := Aside0.mk hi239_5
                          have HC239_5 := Aside0.mk hl239_5
                          clear hi239_5 hl239_5
                          replace p239 := eq_true p239
                          replace q239 := eq_true q239
                          (try (have ea_ := Option.some.inj (HS3_.symm.trans hx239_3); injection ea_ with ea_ en_ ec_; subst ea_; subst ec_; clear en_))
                          (try (have ea_ := Option.some.inj (HS4_.symm.trans hx239_4); injection ea_ with ea_ en_ ec_; subst ea_; subst ec_; clear en_))
                          (try (have ea_ := Option.some.inj (HS5_.symm.trans hx239_5); injection ea_ with ea_ en_ ec_; subst ea_; subst ec_; clear en_))
                          have ea_ := Option.some.inj (hx235_3.symm.trans hx239_3)
                          injection ea_ with ea_ en_ ec_
                          subst ea_
                          subst ec_
                          clear en_
                          have ea_ := Option.some.inj (hx235_4.symm.trans hx239_4)
                          injection ea_ with ea_ en_ ec_
                          subst ea_
                          subst ec_
                          clear en_
                          have ea_ := Option.some.inj (hx235_5.symm.trans hx239_5)
                          injection ea_ with ea_ en_ ec_
                          subst ea_
                          subst ec_
                          clear en_
                          have p240 : 0 ≤ (x13_2 : Int) := of_decide_eq_true (by first | (with_reducible assumption) | assumption)
                          have q240 : x13_2 < (t226.length : Int) := of_decide_eq_true (by first | (with_reducible assumption) | assumption)
                          try (obtain ⟨Az_, cz_, ez_⟩ := Kd.S_slice HO_10.out; subst ez_)
                          obtain ⟨ad240, A240_3, c240_3, A240_4, c240_4, A240_5, c240_5, e240, hx240_0, hx240_1, hx240_2, hx240_3, hx240_4, hx240_5, hl240_3, hi240_3, hl240_4, hi240_4, hl240_5, hi240_5⟩ := at_T33 (Kd.S_reads' HO_10.out).2.2 x13_2 p240 q240
                          obtain rfl : ad236 = ad240 := (by injection e240)
                          obtain ⟨ce240, hce240, hMe240, hcc240⟩ := Kd.S_get HO_10.out z33 x13_2 p240 (by first | exact q240 | exact of_decide_eq_true (by first | (with_reducible assumption) | assumption) | (have e_ := (Kd.S_reads' HO_10.out).1; omega))
                          obtain ⟨ve240_3, ve240_4, ve240_5, rfl, ge240_3, ge240_4, ge240_5⟩ := k33_openM hMe240
                          have hv240_3 := hcc240 3 _ rfl
                          rw [add_field _ _ 3 (by omega)] at hv240_3
                          replace hv240_3 := Option.some.inj (hv240_3.symm.trans hx240_3)
                          rw [hv240_3] at ge240_3
                          have HL240_3 := Aside0.mk (show Kd.R (Kd.int .u64) 47 _ _ _ _ ((rd_T33 t226 x13_2).f2.f1) from ge240_3)
                          clear hv240_3 ge240_3
                          have hv240_4 := hcc240 4 _ rfl
                          rw [add_field _ _ 4 (by omega)] at hv240_4
                          replace hv240_4 := Option.some.inj (hv240_4.symm.trans hx240_4)
                          rw [hv240_4] at ge240_4
                          have HL240_4 := Aside0.mk (show Kd.R (Kd.int .u8) 5 _ _ _ _ ((rd_T33 t226 x13_2).f2.f2) from ge240_4)
                          clear hv240_4 ge240_4
                          have hv240_5 := hcc240 5 _ rfl
                          rw [add_field _ _ 5 (by omega)] at hv240_5
                          replace hv240_5 := Option.some.inj (hv240_5.symm.trans hx240_5)
                          rw [hv240_5] at ge240_5
                          have HL240_5 := Aside0.mk (show Kd.R (Kd.int .u64) 47 _ _ _ _ ((rd_T33 t226 x13_2).f2.f3) from ge240_5)
                          clear hv240_5 ge240_5
                          clear hcc240 hce240
                          have HR240_3 := Aside0.mk hi240_3
                          have HC240_3 := Aside0.mk hl240_3
                          clear hi240_3 hl240_3
                          have HR240_4 := Aside0.mk hi240_4
                          have HC240_4 := Aside0.mk hl240_4
                          clear hi240_4 hl240_4
                          have HR240_5 := Aside0.mk hi240_5
                          have HC240_5 := Aside0.mk hl240_5
                          clear hi240_5 hl240_5
                          replace p240 := eq_true p240
                          replace q240 := eq_true q240
                          (try (have ea_ := Option.some.inj (HS3_.symm.trans hx240_3); injection ea_ with ea_ en_ ec_; subst ea_; subst ec_; clear en_))
                          (try (have ea_ := Option.some.inj (HS4_.symm.trans hx240_4); injection ea_ with ea_ en_ ec_; subst ea_; subst ec_; clear en_))
                          (try (have ea_ := Option.some.inj (HS5_.symm.trans hx240_5); injection ea_ with ea_ en_ ec_; subst ea_; subst ec_; clear en_))
                          have ea_ := Option.some.inj (hx236_3.symm.trans hx240_3)
                          injection ea_ with ea_ en_ ec_
                          subst ea_
                          subst ec_
                          clear en_
                          have ea_ := Option.some.inj (hx236_4.symm.trans hx240_4)
                          injection ea_ with ea_ en_ ec_
                          subst ea_
                          subst ec_
                          clear en_
                          have ea_ := Option.some.inj (hx236_5.symm.trans hx240_5)
                          injection ea_ with ea_ en_ ec_
                          subst ea_
                          subst ec_
                          clear en_
                          refine start_ (n := 38) (S := fun w' => w'.cell? (ad235.add ((x13_2).toNat * 6)) = some (.int .i64 ((rd_T33 t223 x13_2).f0)) ∧ w'.cell? ⟨(ad235.add ((x13_2).toNat * 6)).block, (ad235.add ((x13_2).toNat * 6)).off + 1, none⟩ = some (.int .i64 ((rd_T33 t223 x13_2).f1)) ∧ w'.cell? ⟨(ad235.add ((x13_2).toNat * 6)).block, (ad235.add ((x13_2).toNat * 6)).off + 2, none⟩ = some (.int .i64 ((rd_T33 t223 x13_2).f2.f0)) ∧ w'.cell? ⟨(ad235.add ((x13_2).toNat * 6)).block, (ad235.add ((x13_2).toNat * 6)).off + 3, none⟩ = some (.slice A235_3 ((rd_T33 t223 x13_2).f2.f1).length c235_3) ∧ w'.cell? ⟨(ad235.add ((x13_2).toNat * 6)).block, (ad235.add ((x13_2).toNat * 6)).off + 4, none⟩ = some (.slice A235_4 ((rd_T33 t223 x13_2).f2.f2).length c235_4) ∧ w'.cell? ⟨(ad235.add ((x13_2).toNat * 6)).block, (ad235.add ((x13_2).toNat * 6)).off + 5, none⟩ = some (.slice A235_5 ((rd_T33 t223 x13_2).f2.f3).length c235_5) ∧ w'.cell? (ad236.add ((x13_2).toNat * 6)) = some (.int .i64 ((rd_T33 t226 x13_2).f0)) ∧ w'.cell? ⟨(ad236.add ((x13_2).toNat * 6)).block, (ad236.add ((x13_2).toNat * 6)).off + 1, none⟩ = some (.int .i64 ((rd_T33 t226 x13_2).f1)) ∧ w'.cell? ⟨(ad236.add ((x13_2).toNat * 6)).block, (ad236.add ((x13_2).toNat * 6)).off + 2, none⟩ = some (.int .i64 ((rd_T33 t226 x13_2).f2.f0)) ∧ w'.cell? ⟨(ad236.add ((x13_2).toNat * 6)).block, (ad236.add ((x13_2).toNat * 6)).off + 3, none⟩ = some (.slice A236_3 ((rd_T33 t226 x13_2).f2.f1).length c236_3) ∧ w'.cell? ⟨(ad236.add ((x13_2).toNat * 6)).block, (ad236.add ((x13_2).toNat * 6)).off + 4, none⟩ = some (.slice A236_4 ((rd_T33 t226 x13_2).f2.f2).length c236_4) ∧ w'.cell? ⟨(ad236.add ((x13_2).toNat * 6)).block, (ad236.add ((x13_2).toNat * 6)).off + 5, none⟩ = some (.slice A236_5 ((rd_T33 t226 x13_2).f2.f3).length c236_5) ∧ w'.cell? (ad235.add ((x13_2).toNat * 6)) = some (.int .i64 ((rd_T33 t223 x13_2).f0)) ∧ w'.cell? ⟨(ad235.add ((x13_2).toNat * 6)).block, (ad235.add ((x13_2).toNat * 6)).off + 1, none⟩ = some (.int .i64 ((rd_T33 t223 x13_2).f1)) ∧ w'.cell? ⟨(ad235.add ((x13_2).toNat * 6)).block, (ad235.add ((x13_2).toNat * 6)).off + 2, none⟩ = some (.int .i64 ((rd_T33 t223 x13_2).f2.f0)) ∧ w'.cell? ⟨(ad235.add ((x13_2).toNat * 6)).block, (ad235.add ((x13_2).toNat * 6)).off + 3, none⟩ = some (.slice A235_3 ((rd_T33 t223 x13_2).f2.f1).length c235_3) ∧ w'.cell? ⟨(ad235.add ((x13_2).toNat * 6)).block, (ad235.add ((x13_2).toNat * 6)).off + 4, none⟩ = some (.slice A235_4 ((rd_T33 t223 x13_2).f2.f2).length c235_4) ∧ w'.cell? ⟨(ad235.add ((x13_2).toNat * 6)).block, (ad235.add ((x13_2).toNat * 6)).off + 5, none⟩ = some (.slice A235_5 ((rd_T33 t223 x13_2).f2.f3).length c235_5) ∧ w'.cell? (ad236.add ((x13_2).toNat * 6)) = some (.int .i64 ((rd_T33 t226 x13_2).f0)) ∧ w'.cell? ⟨(ad236.add ((x13_2).toNat * 6)).block, (ad236.add ((x13_2).toNat * 6)).off + 1, none⟩ = some (.int .i64 ((rd_T33 t226 x13_2).f1)) ∧ w'.cell? ⟨(ad236.add ((x13_2).toNat * 6)).block, (ad236.add ((x13_2).toNat * 6)).off + 2, none⟩ = some (.int .i64 ((rd_T33 t226 x13_2).f2.f0)) ∧ w'.cell? ⟨(ad236.add ((x13_2).toNat * 6)).block, (ad236.add ((x13_2).toNat * 6)).off + 3, none⟩ = some (.slice A236_3 ((rd_T33 t226 x13_2).f2.f1).length c236_3) ∧ w'.cell? ⟨(ad236.add ((x13_2).toNat * 6)).block, (ad236.add ((x13_2).toNat * 6)).off + 4, none⟩ = some (.slice A236_4 ((rd_T33 t226 x13_2).f2.f2).length c236_4) ∧ w'.cell? ⟨(ad236.add ((x13_2).toNat * 6)).block, (ad236.add ((x13_2).toNat * 6)).off + 5, none⟩ = some (.slice A236_5 ((rd_T33 t226 x13_2).f2.f3).length c236_5) ∧ w'.cell? (ad235.add ((x13_2).toNat * 6)) = some (.int .i64 ((rd_T33 t223 x13_2).f0)) ∧ w'.cell? ⟨(ad235.add ((x13_2).toNat * 6)).block, (ad235.add ((x13_2).toNat * 6)).off + 1, none⟩ = some (.int .i64 ((rd_T33 t223 x13_2).f1)) ∧ w'.cell? ⟨(ad235.add ((x13_2).toNat * 6)).block, (ad235.add ((x13_2).toNat * 6)).off + 2, none⟩ = some (.int .i64 ((rd_T33 t223 x13_2).f2.f0)) ∧ w'.cell? ⟨(ad235.add ((x13_2).toNat * 6)).block, (ad235.add ((x13_2).toNat * 6)).off + 3, none⟩ = some (.slice A235_3 ((rd_T33 t223 x13_2).f2.f1).length c235_3) ∧ w'.cell? ⟨(ad235.add ((x13_2).toNat * 6)).block, (ad235.add ((x13_2).toNat * 6)).off + 4, none⟩ = some (.slice A235_4 ((rd_T33 t223 x13_2).f2.f2).length c235_4) ∧ w'.cell? ⟨(ad235.add ((x13_2).toNat * 6)).block, (ad235.add ((x13_2).toNat * 6)).off + 5, none⟩ = some (.slice A235_5 ((rd_T33 t223 x13_2).f2.f3).length c235_5) ∧ w'.cell? (ad236.add ((x13_2).toNat * 6)) = some (.int .i64 ((rd_T33 t226 x13_2).f0)) ∧ w'.cell? ⟨(ad236.add ((x13_2).toNat * 6)).block, (ad236.add ((x13_2).toNat * 6)).off + 1, none⟩ = some (.int .i64 ((rd_T33 t226 x13_2).f1)) ∧ w'.cell? ⟨(ad236.add ((x13_2).toNat * 6)).block, (ad236.add ((x13_2).toNat * 6)).off + 2, none⟩ = some (.int .i64 ((rd_T33 t226 x13_2).f2.f0)) ∧ w'.cell? ⟨(ad236.add ((x13_2).toNat * 6)).block, (ad236.add ((x13_2).toNat * 6)).off + 3, none⟩ = some (.slice A236_3 ((rd_T33 t226 x13_2).f2.f1).length c236_3) ∧ w'.cell? ⟨(ad236.add ((x13_2).toNat * 6)).block, (ad236.add ((x13_2).toNat * 6)).off + 4, none⟩ = some (.slice A236_4 ((rd_T33 t226 x13_2).f2.f2).length c236_4) ∧ w'.cell? ⟨(ad236.add ((x13_2).toNat * 6)).block, (ad236.add ((x13_2).toNat * 6)).off + 5, none⟩ = some (.slice A236_5 ((rd_T33 t226 x13_2).f2.f3).length c236_5)) (ds := []) #[false, false, false, false, false, false, false, false, false, false, false, false, false, false, false, false, false, false, false, false, false, false, false, false, false, false, false, false, false, false, false, false, false, false, false, false, false, false] (by kernel_rfl) rfl rfl ⟨hx235_0, hx235_1, hx235_2, hx235_3, hx235_4, hx235_5, hx236_0, hx236_1, hx236_2, hx236_3, hx236_4, hx236_5, hx237_0, hx237_1, hx237_2, hx237_3, hx237_4, hx237_5, hx238_0, hx238_1, hx238_2, hx238_3, hx238_4, hx238_5, hx239_0, hx239_1, hx239_2, hx239_3, hx239_4, hx239_5, hx240_0, hx240_1, hx240_2, hx240_3, hx240_4, hx240_5⟩ (fun hHeld => ?_); refine with_tabW logbooklaw17_ScanObjects.tab11 logbooklaw17_ScanObjects.bits11 (fun HT_ HW_ => ?_)
                          generalize wr.drew = w33 at HO_9 HO_10 HO_11 HB HL235_3 HL235_4 HL235_5 HL236_3 HL236_4 HL236_5 HL237_3 HL237_4 HL237_5 HL238_3 HL238_4 HL238_5 HL239_3 HL239_4 HL239_5 HL240_3 HL240_4 HL240_5 HR235_3 HR235_4 HR235_5 HR236_3 HR236_4 HR236_5 HR237_3 HR237_4 HR237_5 HR238_3 HR238_4 HR238_5 HR239_3 HR239_4 HR239_5 HR240_3 HR240_4 HR240_5 hx235_0 hx235_1 hx235_2 hx235_3 hx235_4 hx235_5 hx236_0 hx236_1 hx236_2 hx236_3 hx236_4 hx236_5 hx237_0 hx237_1 hx237_2 hx237_3 hx237_4 hx237_5 hx238_0 hx238_1 hx238_2 hx238_3 hx238_4 hx238_5 hx239_0 hx239_1 hx239_2 hx239_3 hx239_4 hx239_5 hx240_0 hx240_1 hx240_2 hx240_3 hx240_4 hx240_5 hHeld ⊢
                          refine pure_ (i := 0) (N := some 53) (v := ?_) (a' := ?_) #[true, false, false, false, false, false, false, false, false, false, false, false, false, false, false, false, false, false, false, false, false, false, false, false, false, false, false, false, false, false, false, false, false, false, false, false, false, false] rfl rfl (any_of HT_.out (by kernel_rfl)) (fun _ _ _ h => h) (Or.inl ⟨by rfl, ?_⟩) ?_ ?_
                          rotate_left
                          · intro w'
                            go_simp
                            with_reducible rfl
                          rotate_left
                          · simp only [Act.put, List.setIfInBounds_toArray, List.set_cons_zero, List.set_cons_succ, i64_w, i32_w]
                            rfl
                          refine pure_ (i := 1) (N := some 54) (v := ?_) (a' := ?_) #[true, true, false, false, false, false, false, false, false, false, false, false, false, false, false, false, false, false, false, false, false, false, false, false, false, false, false, false, false, false, false, false, false, false, false, false, false, false] rfl rfl (any_of HT_.out (by kernel_rfl)) (fun _ _ _ h => h) (Or.inl ⟨by rfl, ?_⟩) ?_ ?_
                          rotate_left
                          · intro w'
                            go_simp
                            with_reducible rfl
                          rotate_left
                          · simp only [Act.put, List.setIfInBounds_toArray, List.set_cons_zero, List.set_cons_succ, i64_w, i32_w]
                            rfl
                          refine pure_ (i := 2) (N := some 55) (v := ?_) (a' := ?_) #[true, true, true, false, false, false, false, false, false, false, false, false, false, false, false, false, false, false, false, false, false, false, false, false, false, false, false, false, false, false, false, false, false, false, false, false, false, false] rfl rfl (any_of HT_.out (by kernel_rfl)) (fun _ _ _ h => h) (Or.inl ⟨by rfl, ?_⟩) ?_ ?_
                          rotate_left
                          · intro w'
                            go_simp
                            with_reducible rfl
                          rotate_left
                          · simp only [Act.put, List.setIfInBounds_toArray, List.set_cons_zero, List.set_cons_succ, i64_w, i32_w]
                            rfl
                          refine pure_ (i := 3) (N := some 56) (v := ?_) (a' := ?_) #[true, true, true, true, false, false, false, false, false, false, false, false, false, false, false, false, false, false, false, false, false, false, false, false, false, false, false, false, false, false, false, false, false, false, false, false, false, false] rfl rfl (any_of HT_.out (by kernel_rfl)) (fun _ _ _ h => h) (Or.inl ⟨by rfl, ?_⟩) ?_ ?_
                          rotate_left
                          · intro w'
                            go_simp
                            with_reducible rfl
                          rotate_left
                          · simp only [Act.put, List.setIfInBounds_toArray, List.set_cons_zero, List.set_cons_succ, i64_w, i32_w]
                            rfl
                          refine pure_ (i := 5) (N := some 58) (v := ?_) (a' := ?_) #[true, true, true, true, false, true, false, false, false, false, false, false, false, false, false, false, false, false, false, false, false, false, false, false, false, false, false, false, false, false, false, false, false, false, false, false, false, false] rfl rfl (any_of HT_.out (by kernel_rfl)) (fun _ _ _ h => h) (Or.inl ⟨by rfl, ?_⟩) ?_ ?_
                          rotate_left
                          · intro w'
                            go_simp
                            with_reducible rfl
                          rotate_left
                          · simp only [Act.put, List.setIfInBounds_toArray, List.set_cons_zero, List.set_cons_succ, i64_w, i32_w]
                            rfl
                          refine pure_ (i := 6) (N := some 59) (v := ?_) (a' := ?_) #[true, true, true, true, false, true, true, false, false, false, false, false, false, false, false, false, false, false, false, false, false, false, false, false, false, false, false, false, false, false, false, false, false, false, false, false, false, false] rfl rfl (any_of HT_.out (by kernel_rfl)) (fun _ _ _ h => h) (Or.inl ⟨by rfl, ?_⟩) ?_ ?_
                          rotate_left
                          · intro w'
                            go_simp
                            with_reducible rfl
                          rotate_left
                          · simp only [Act.put, List.setIfInBounds_toArray, List.set_cons_zero, List.set_cons_succ, i64_w, i32_w]
                            rfl
                          refine pure_ (i := 7) (N := some 60) (v := ?_) (a' := ?_) #[true, true, true, true, false, true, true, true, false, false, false, false, false, false, false, false, false, false, false, false, false, false, false, false, false, false, false, false, false, false, false, false, false, false, false, false, false, false] rfl rfl (any_of HT_.out (by kernel_rfl)) (fun _ _ _ h => h) (Or.inl ⟨by rfl, ?_⟩) ?_ ?_
                          rotate_left
                          · intro w'
                            go_simp
                            with_reducible rfl
                          rotate_left
                          · simp only [Act.put, List.setIfInBounds_toArray, List.set_cons_zero, List.set_cons_succ, i64_w, i32_w]
                            rfl
                          refine pure_ (i := 8) (N := some 61) (v := ?_) (a' := ?_) #[true, true, true, true, false, true, true, true, true, false, false, false, false, false, false, false, false, false, false, false, false, false, false, false, false, false, false, false, false, false, false, false, false, false, false, false, false, false] rfl rfl (any_of HT_.out (by kernel_rfl)) (fun _ _ _ h => h) (Or.inl ⟨by rfl, ?_⟩) ?_ ?_
                          rotate_left
                          · intro w'
                            go_simp
                            with_reducible rfl
                          rotate_left
                          · simp only [Act.put, List.setIfInBounds_toArray, List.set_cons_zero, List.set_cons_succ, i64_w, i32_w]
                            rfl
                          refine take_ (i := 4) (N := some 57) (v := ?_) (a' := ?_) #[true, true, true, true, true, true, true, true, true, false, false, false, false, false, false, false, false, false, false, false, false, false, false, false, false, false, false, false, false, false, false, false, false, false, false, false, false, false] rfl rfl (take_ofW HT_.out HW_.out (by kernel_rfl)) (fun _ _ _ h => h) (Or.inl ⟨by rfl, ?_⟩) hHeld ?_ ?_
                          rotate_left
                          · rintro w' ⟨s0, s1, s2, s3, s4, s5, s6, s7, s8, s9, s10, s11, s12, s13, s14, s15, s16, s17, s18, s19, s20, s21, s22, s23, s24, s25, s26, s27, s28, s29, s30, s31, s32, s33, s34, s35⟩
                            go_simp
                            with_reducible rfl
                          rotate_left
                          · simp only [Act.put, List.setIfInBounds_toArray, List.set_cons_zero, List.set_cons_succ, i64_w, i32_w]
                            rfl
                          refine take_ (i := 9) (N := some 62) (v := ?_) (a' := ?_) #[true, true, true, true, true, true, true, true, true, true, false, false, false, false, false, false, false, false, false, false, false, false, false, false, false, false, false, false, false, false, false, false, false, false, false, false, false, false] rfl rfl (take_ofW HT_.out HW_.out (by kernel_rfl)) (fun _ _ _ h => h) (Or.inl ⟨by rfl, ?_⟩) hHeld ?_ ?_
                          rotate_left
                          · rintro w' ⟨s0, s1, s2, s3, s4, s5, s6, s7, s8, s9, s10, s11, s12, s13, s14, s15, s16, s17, s18, s19, s20, s21, s22, s23, s24, s25, s26, s27, s28, s29, s30, s31, s32, s33, s34, s35⟩
                            go_simp
                            with_reducible rfl
                          rotate_left
                          · simp only [Act.put, List.setIfInBounds_toArray, List.set_cons_zero, List.set_cons_succ, i64_w, i32_w]
                            rfl
                          refine pure_ (i := 10) (N := some 63) (v := ?_) (a' := ?_) #[true, true, true, true, true, true, true, true, true, true, true, false, false, false, false, false, false, false, false, false, false, false, false, false, false, false, false, false, false, false, false, false, false, false, false, false, false, false] rfl rfl (any_of HT_.out (by kernel_rfl)) (fun _ _ _ h => h) (Or.inl ⟨by rfl, ?_⟩) ?_ ?_
                          rotate_left
                          · intro w'
                            go_simp
                            with_reducible rfl
                          rotate_left
                          · simp only [Act.put, List.setIfInBounds_toArray, List.set_cons_zero, List.set_cons_succ, i64_w, i32_w]
                            rfl
                          refine pure_ (i := 11) (N := some 64) (v := ?_) (a' := ?_) #[true, true, true, true, true, true, true, true, true, true, true, true, false, false, false, false, false, false, false, false, false, false, false, false, false, false, false, false, false, false, false, false, false, false, false, false, false, false] rfl rfl (any_of HT_.out (by kernel_rfl)) (fun _ _ _ h => h) (Or.inl ⟨by rfl, ?_⟩) ?_ ?_
                          rotate_left
                          · intro w'
                            go_simp
                            with_reducible rfl
                          rotate_left
                          · simp only [Act.put, List.setIfInBounds_toArray, List.set_cons_zero, List.set_cons_succ, i64_w, i32_w]
                            rfl
                          refine pure_ (i := 12) (N := some 65) (v := ?_) (a' := ?_) #[true, true, true, true, true, true, true, true, true, true, true, true, true, false, false, false, false, false, false, false, false, false, false, false, false, false, false, false, false, false, false, false, false, false, false, false, false, false] rfl rfl (any_of HT_.out (by kernel_rfl)) (fun _ _ _ h => h) (Or.inl ⟨by rfl, ?_⟩) ?_ ?_
                          rotate_left
                          · intro w'
                            go_simp
                            with_reducible rfl
                          rotate_left
                          · simp only [Act.put, List.setIfInBounds_toArray, List.set_cons_zero, List.set_cons_succ, i64_w, i32_w]
                            rfl
                          refine pure_ (i := 13) (N := some 66) (v := ?_) (a' := ?_) #[true, true, true, true, true, true, true, true, true, true, true, true, true, true, false, false, false, false, false, false, false, false, false, false, false, false, false, false, false, false, false, false, false, false, false, false, false, false] rfl rfl (any_of HT_.out (by kernel_rfl)) (fun _ _ _ h => h) (Or.inl ⟨by rfl, ?_⟩) ?_ ?_
                          rotate_left
                          · intro w'
                            go_simp
                            with_reducible rfl
                          rotate_left
                          · simp only [Act.put, List.setIfInBounds_toArray, List.set_cons_zero, List.set_cons_succ, i64_w, i32_w]
                            rfl
                          refine pure_ (i := 14) (N := some 67) (v := ?_) (a' := ?_) #[true, true, true, true, true, true, true, true, true, true, true, true, true, true, true, false, false, false, false, false, false, false, false, false, false, false, false, false, false, false, false, false, false, false, false, false, false, false] rfl rfl (any_of HT_.out (by kernel_rfl)) (fun _ _ _ h => h) (Or.inl ⟨by rfl, ?_⟩) ?_ ?_
                          rotate_left
                          · intro w'
                            go_simp
                            with_reducible rfl
                          rotate_left
                          · simp only [Act.put, List.setIfInBounds_toArray, List.set_cons_zero, List.set_cons_succ, i64_w, i32_w]
                            rfl
                          refine pure_ (i := 15) (N := some 68) (v := ?_) (a' := ?_) #[true, true, true, true, true, true, true, true, true, true, true, true, true, true, true, true, false, false, false, false, false, false, false, false, false, false, false, false, false, false, false, false, false, false, false, false, false, false] rfl rfl (any_of HT_.out (by kernel_rfl)) (fun _ _ _ h => h) (Or.inl ⟨by rfl, ?_⟩) ?_ ?_
                          rotate_left
                          · intro w'
                            go_simp
                            with_reducible rfl
                          rotate_left
                          · simp only [Act.put, List.setIfInBounds_toArray, List.set_cons_zero, List.set_cons_succ, i64_w, i32_w]
                            rfl
                          refine pure_ (i := 17) (N := some 70) (v := ?_) (a' := ?_) #[true, true, true, true, true, true, true, true, true, true, true, true, true, true, true, true, false, true, false, false, false, false, false, false, false, false, false, false, false, false, false, false, false, false, false, false, false, false] rfl rfl (any_of HT_.out (by kernel_rfl)) (fun _ _ _ h => h) (Or.inl ⟨by rfl, ?_⟩) ?_ ?_
                          rotate_left
                          · intro w'
                            go_simp
                            with_reducible rfl
                          rotate_left
                          · simp only [Act.put, List.setIfInBounds_toArray, List.set_cons_zero, List.set_cons_succ, i64_w, i32_w]
                            rfl
                          refine pure_ (i := 18) (N := some 71) (v := ?_) (a' := ?_) #[true, true, true, true, true, true, true, true, true, true, true, true, true, true, true, true, false, true, true, false, false, false, false, false, false, false, false, false, false, false, false, false, false, false, false, false, false, false] rfl rfl (any_of HT_.out (by kernel_rfl)) (fun _ _ _ h => h) (Or.inl ⟨by rfl, ?_⟩) ?_ ?_
                          rotate_left
                          · intro w'
                            go_simp
                            with_reducible rfl
                          rotate_left
                          · simp only [Act.put, List.setIfInBounds_toArray, List.set_cons_zero, List.set_cons_succ, i64_w, i32_w]
                            rfl
                          refine pure_ (i := 19) (N := some 72) (v := ?_) (a' := ?_) #[true, true, true, true, true, true, true, true, true, true, true, true, true, true, true, true, false, true, true, true, false, false, false, false, false, false, false, false, false, false, false, false, false, false, false, false, false, false] rfl rfl (any_of HT_.out (by kernel_rfl)) (fun _ _ _ h => h) (Or.inl ⟨by rfl, ?_⟩) ?_ ?_
                          rotate_left
                          · intro w'
                            go_simp
                            with_reducible rfl
                          rotate_left
                          · simp only [Act.put, List.setIfInBounds_toArray, List.set_cons_zero, List.set_cons_succ, i64_w, i32_w]
                            rfl
                          refine pure_ (i := 20) (N := some 73) (v := ?_) (a' := ?_) #[true, true, true, true, true, true, true, true, true, true, true, true, true, true, true, true, false, true, true, true, true, false, false, false, false, false, false, false, false, false, false, false, false, false, false, false, false, false] rfl rfl (any_of HT_.out (by kernel_rfl)) (fun _ _ _ h => h) (Or.inl ⟨by rfl, ?_⟩) ?_ ?_
                          rotate_left
                          · intro w'
                            go_simp
                            with_reducible rfl
                          rotate_left
                          · simp only [Act.put, List.setIfInBounds_toArray, List.set_cons_zero, List.set_cons_succ, i64_w, i32_w]
                            rfl
                          refine take_ (i := 16) (N := some 69) (v := ?_) (a' := ?_) #[true, true, true, true, true, true, true, true, true, true, true, true, true, true, true, true, true, true, true, true, true, false, false, false, false, false, false, false, false, false, false, false, false, false, false, false, false, false] rfl rfl (take_ofW HT_.out HW_.out (by kernel_rfl)) (fun _ _ _ h => h) (Or.inl ⟨by rfl, ?_⟩) hHeld ?_ ?_
                          rotate_left
                          · rintro w' ⟨s0, s1, s2, s3, s4, s5, s6, s7, s8, s9, s10, s11, s12, s13, s14, s15, s16, s17, s18, s19, s20, s21, s22, s23, s24, s25, s26, s27, s28, s29, s30, s31, s32, s33, s34, s35⟩
                            go_simp
                            with_reducible rfl
                          rotate_left
                          · simp only [Act.put, List.setIfInBounds_toArray, List.set_cons_zero, List.set_cons_succ, i64_w, i32_w]
                            rfl
                          refine take_ (i := 21) (N := some 74) (v := ?_) (a' := ?_) #[true, true, true, true, true, true, true, true, true, true, true, true, true, true, true, true, true, true, true, true, true, true, false, false, false, false, false, false, false, false, false, false, false, false, false, false, false, false] rfl rfl (take_ofW HT_.out HW_.out (by kernel_rfl)) (fun _ _ _ h => h) (Or.inl ⟨by rfl, ?_⟩) hHeld ?_ ?_
                          rotate_left
                          · rintro w' ⟨s0, s1, s2, s3, s4, s5, s6, s7, s8, s9, s10, s11, s12, s13, s14, s15, s16, s17, s18, s19, s20, s21, s22, s23, s24, s25, s26, s27, s28, s29, s30, s31, s32, s33, s34, s35⟩
                            go_simp
                            with_reducible rfl
                          rotate_left
                          · simp only [Act.put, List.setIfInBounds_toArray, List.set_cons_zero, List.set_cons_succ, i64_w, i32_w]
                            rfl
                          refine pure_ (i := 22) (N := some 75) (v := ?_) (a' := ?_) #[true, true, true, true, true, true, true, true, true, true, true, true, true, true, true, true, true, true, true, true, true, true, true, false, false, false, false, false, false, false, false, false, false, false, false, false, false, false] rfl rfl (any_of HT_.out (by kernel_rfl)) (fun _ _ _ h => h) (Or.inl ⟨by rfl, ?_⟩) ?_ ?_
                          rotate_left
                          · intro w'
                            go_simp
                            with_reducible rfl
                          rotate_left
                          · simp only [Act.put, List.setIfInBounds_toArray, List.set_cons_zero, List.set_cons_succ, i64_w, i32_w]
                            rfl
                          refine pure_ (i := 23) (N := some 76) (v := ?_) (a' := ?_) #[true, true, true, true, true, true, true, true, true, true, true, true, true, true, true, true, true, true, true, true, true, true, true, true, false, false, false, false, false, false, false, false, false, false, false, false, false, false] rfl rfl (any_of HT_.out (by kernel_rfl)) (fun _ _ _ h => h) (Or.inl ⟨by rfl, ?_⟩) ?_ ?_
                          rotate_left
                          · intro w'
                            go_simp
                            with_reducible rfl
                          rotate_left
                          · simp only [Act.put, List.setIfInBounds_toArray, List.set_cons_zero, List.set_cons_succ, i64_w, i32_w]
                            rfl
                          refine pure_ (i := 24) (N := some 77) (v := ?_) (a' := ?_) #[true, true, true, true, true, true, true, true, true, true, true, true, true, true, true, true, true, true, true, true, true, true, true, true, true, false, false, false, false, false, false, false, false, false, false, false, false, false] rfl rfl (any_of HT_.out (by kernel_rfl)) (fun _ _ _ h => h) (Or.inl ⟨by rfl, ?_⟩) ?_ ?_
                          rotate_left
                          · intro w'
                            go_simp
                            with_reducible rfl
                          rotate_left
                          · simp only [Act.put, List.setIfInBounds_toArray, List.set_cons_zero, List.set_cons_succ, i64_w, i32_w]
                            rfl
                          refine pure_ (i := 25) (N := some 78) (v := ?_) (a' := ?_) #[true, true, true, true, true, true, true, true, true, true, true, true, true, true, true, true, true, true, true, true, true, true, true, true, true, true, false, false, false, false, false, false, false, false, false, false, false, false] rfl rfl (any_of HT_.out (by kernel_rfl)) (fun _ _ _ h => h) (Or.inl ⟨by rfl, ?_⟩) ?_ ?_
                          rotate_left
                          · intro w'
                            go_simp
                            with_reducible rfl
                          rotate_left
                          · simp only [Act.put, List.setIfInBounds_toArray, List.set_cons_zero, List.set_cons_succ, i64_w, i32_w]
                            rfl
                          refine pure_ (i := 26) (N := some 79) (v := ?_) (a' := ?_) #[true, true, true, true, true, true, true, true, true, true, true, true, true, true, true, true, true, true, true, true, true, true, true, true, true, true, true, false, false, false, false, false, false, false, false, false, false, false] rfl rfl (any_of HT_.out (by kernel_rfl)) (fun _ _ _ h => h) (Or.inl ⟨by rfl, ?_⟩) ?_ ?_
                          rotate_left
                          · intro w'
                            go_simp
                            with_reducible rfl
                          rotate_left
                          · simp only [Act.put, List.setIfInBounds_toArray, List.set_cons_zero, List.set_cons_succ, i64_w, i32_w]
                            rfl
                          refine pure_ (i := 27) (N := some 80) (v := ?_) (a' := ?_) #[true, true, true, true, true, true, true, true, true, true, true, true, true, true, true, true, true, true, true, true, true, true, true, true, true, true, true, true, false, false, false, false, false, false, false, false, false, false] rfl rfl (any_of HT_.out (by kernel_rfl)) (fun _ _ _ h => h) (Or.inl ⟨by rfl, ?_⟩) ?_ ?_
                          rotate_left
                          · intro w'
                            go_simp
                            with_reducible rfl
                          rotate_left
                          · simp only [Act.put, List.setIfInBounds_toArray, List.set_cons_zero, List.set_cons_succ, i64_w, i32_w]
                            rfl
                          refine pure_ (i := 28) (N := some 81) (v := ?_) (a' := ?_) #[true, true, true, true, true, true, true, true, true, true, true, true, true, true, true, true, true, true, true, true, true, true, true, true, true, true, true, true, true, false, false, false, false, false, false, false, false, false] rfl rfl (any_of HT_.out (by kernel_rfl)) (fun _ _ _ h => h) (Or.inl ⟨by rfl, ?_⟩) ?_ ?_
                          rotate_left
                          · intro w'
                            go_simp
                            with_reducible rfl
                          rotate_left
                          · simp only [Act.put, List.setIfInBounds_toArray, List.set_cons_zero, List.set_cons_succ, i64_w, i32_w]
                            rfl
                          refine pure_ (i := 30) (N := some 83) (v := ?_) (a' := ?_) #[true, true, true, true, true, true, true, true, true, true, true, true, true, true, true, true, true, true, true, true, true, true, true, true, true, true, true, true, true, false, true, false, false, false, false, false, false, false] rfl rfl (any_of HT_.out (by kernel_rfl)) (fun _ _ _ h => h) (Or.inl ⟨by rfl, ?_⟩) ?_ ?_
                          rotate_left
                          · intro w'
                            go_simp
                            with_reducible rfl
                          rotate_left
                          · simp only [Act.put, List.setIfInBounds_toArray, List.set_cons_zero, List.set_cons_succ, i64_w, i32_w]
                            rfl
                          refine pure_ (i := 31) (N := some 84) (v := ?_) (a' := ?_) #[true, true, true, true, true, true, true, true, true, true, true, true, true, true, true, true, true, true, true, true, true, true, true, true, true, true, true, true, true, false, true, true, false, false, false, false, false, false] rfl rfl (any_of HT_.out (by kernel_rfl)) (fun _ _ _ h => h) (Or.inl ⟨by rfl, ?_⟩) ?_ ?_
                          rotate_left
                          · intro w'
                            go_simp
                            with_reducible rfl
                          rotate_left
                          · simp only [Act.put, List.setIfInBounds_toArray, List.set_cons_zero, List.set_cons_succ, i64_w, i32_w]
                            rfl
                          refine pure_ (i := 32) (N := some 85) (v := ?_) (a' := ?_) #[true, true, true, true, true, true, true, true, true, true, true, true, true, true, true, true, true, true, true, true, true, true, true, true, true, true, true, true, true, false, true, true, true, false, false, false, false, false] rfl rfl (any_of HT_.out (by kernel_rfl)) (fun _ _ _ h => h) (Or.inl ⟨by rfl, ?_⟩) ?_ ?_
                          rotate_left
                          · intro w'
                            go_simp
                            with_reducible rfl
                          rotate_left
                          · simp only [Act.put, List.setIfInBounds_toArray, List.set_cons_zero, List.set_cons_succ, i64_w, i32_w]
                            rfl
                          refine pure_ (i := 33) (N := some 86) (v := ?_) (a' := ?_) #[true, true, true, true, true, true, true, true, true, true, true, true, true, true, true, true, true, true, true, true, true, true, true, true, true, true, true, true, true, false, true, true, true, true, false, false, false, false] rfl rfl (any_of HT_.out (by kernel_rfl)) (fun _ _ _ h => h) (Or.inl ⟨by rfl, ?_⟩) ?_ ?_
                          rotate_left
                          · intro w'
                            go_simp
                            with_reducible rfl
                          rotate_left
                          · simp only [Act.put, List.setIfInBounds_toArray, List.set_cons_zero, List.set_cons_succ, i64_w, i32_w]
                            rfl
                          refine take_ (i := 29) (N := some 82) (v := ?_) (a' := ?_) #[true, true, true, true, true, true, true, true, true, true, true, true, true, true, true, true, true, true, true, true, true, true, true, true, true, true, true, true, true, true, true, true, true, true, false, false, false, false] rfl rfl (take_ofW HT_.out HW_.out (by kernel_rfl)) (fun _ _ _ h => h) (Or.inl ⟨by rfl, ?_⟩) hHeld ?_ ?_
                          rotate_left
                          · rintro w' ⟨s0, s1, s2, s3, s4, s5, s6, s7, s8, s9, s10, s11, s12, s13, s14, s15, s16, s17, s18, s19, s20, s21, s22, s23, s24, s25, s26, s27, s28, s29, s30, s31, s32, s33, s34, s35⟩
                            go_simp
                            with_reducible rfl
                          rotate_left
                          · simp only [Act.put, List.setIfInBounds_toArray, List.set_cons_zero, List.set_cons_succ, i64_w, i32_w]
                            rfl
                          refine take_ (i := 34) (N := some 87) (v := ?_) (a' := ?_) #[true, true, true, true, true, true, true, true, true, true, true, true, true, true, true, true, true, true, true, true, true, true, true, true, true, true, true, true, true, true, true, true, true, true, true, false, false, false] rfl rfl (take_ofW HT_.out HW_.out (by kernel_rfl)) (fun _ _ _ h => h) (Or.inl ⟨by rfl, ?_⟩) hHeld ?_ ?_
                          rotate_left
                          · rintro w' ⟨s0, s1, s2, s3, s4, s5, s6, s7, s8, s9, s10, s11, s12, s13, s14, s15, s16, s17, s18, s19, s20, s21, s22, s23, s24, s25, s26, s27, s28, s29, s30, s31, s32, s33, s34, s35⟩
                            go_simp
                            with_reducible rfl
                          rotate_left
                          · simp only [Act.put, List.setIfInBounds_toArray, List.set_cons_zero, List.set_cons_succ, i64_w, i32_w]
                            rfl
                          refine one_ (i := 35) (N := some 88) #[true, true, true, true, true, true, true, true, true, true, true, true, true, true, true, true, true, true, true, true, true, true, true, true, true, true, true, true, true, true, true, true, true, true, true, true, false, false] rfl rfl (one_of HT_.out (by kernel_rfl)) (by decide) (fun K hK => ?_)
                          refine goes_ Try.func11 (by kernel_rfl) rfl #[.agg #[.int .i64 ((rd_T33 t223 x13_2).f2.f0), .slice A235_3 ((rd_T33 t223 x13_2).f2.f1).length c235_3, .slice A235_4 ((rd_T33 t223 x13_2).f2.f2).length c235_4, .slice A235_5 ((rd_T33 t223 x13_2).f2.f3).length c235_5], .agg #[.int .i64 ((rd_T33 t226 x13_2).f2.f0), .slice A236_3 ((rd_T33 t226 x13_2).f2.f1).length c236_3, .slice A236_4 ((rd_T33 t226 x13_2).f2.f2).length c236_4, .slice A236_5 ((rd_T33 t226 x13_2).f2.f3).length c236_5]] (by rfl) rfl rfl (by (try simp only [List.map_toArray, List.map_cons, List.map_nil]); first | done | rfl | (simp only [List.length_drop, List.length_take]; rfl)) ?_
                          with_reducible refine (logbookref09_Same.calls k2 ((rd_T33 t223 x13_2).f2.f0) _ _ ((rd_T33 t223 x13_2).f2.f1) _ _ ((rd_T33 t223 x13_2).f2.f2) _ _ ((rd_T33 t223 x13_2).f2.f3) ((rd_T33 t226 x13_2).f2.f0) _ _ ((rd_T33 t226 x13_2).f2.f1) _ _ ((rd_T33 t226 x13_2).f2.f2) _ _ ((rd_T33 t226 x13_2).f2.f3) t241 _ ?side1 ?side2 ?side3 ?side4 ?side5 ?side6 ?side7 ?side8 ?side9 ?side10 ?side11 ?side12 A32.out).mono ?_
                          (case side1 => repeat (first | exact (by repeat (first | (with_reducible exact HR239_3.out) | (with_reducible refine Kd.C_alloc ?_ _) | (with_reducible refine Kd.C_drewN ?_ _) | (with_reducible refine Kd.C_drew ?_) | exact HR239_3.out)) | (with_reducible refine Kd.C_alloc ?_ _) | (with_reducible refine Kd.C_drewN ?_ _) | (with_reducible refine Kd.C_drew ?_)))
                          (case side2 => exact HC239_3.out)
                          (case side3 => repeat (first | exact (by repeat (first | (with_reducible exact HR239_4.out) | (with_reducible refine Kd.C_alloc ?_ _) | (with_reducible refine Kd.C_drewN ?_ _) | (with_reducible refine Kd.C_drew ?_) | exact HR239_4.out)) | (with_reducible refine Kd.C_alloc ?_ _) | (with_reducible refine Kd.C_drewN ?_ _) | (with_reducible refine Kd.C_drew ?_)))
                          (case side4 => exact HC239_4.out)
                          (case side5 => repeat (first | exact (by repeat (first | (with_reducible exact HR239_5.out) | (with_reducible refine Kd.C_alloc ?_ _) | (with_reducible refine Kd.C_drewN ?_ _) | (with_reducible refine Kd.C_drew ?_) | exact HR239_5.out)) | (with_reducible refine Kd.C_alloc ?_ _) | (with_reducible refine Kd.C_drewN ?_ _) | (with_reducible refine Kd.C_drew ?_)))
                          (case side6 => exact HC239_5.out)
                          (case side7 => repeat (first | exact (by repeat (first | (with_reducible exact HR240_3.out) | (with_reducible refine Kd.C_alloc ?_ _) | (with_reducible refine Kd.C_drewN ?_ _) | (with_reducible refine Kd.C_drew ?_) | exact HR240_3.out)) | (with_reducible refine Kd.C_alloc ?_ _) | (with_reducible refine Kd.C_drewN ?_ _) | (with_reducible refine Kd.C_drew ?_)))
                          (case side8 => exact HC240_3.out)
                          (case side9 => repeat (first | exact (by repeat (first | (with_reducible exact HR240_4.out) | (with_reducible refine Kd.C_alloc ?_ _) | (with_reducible refine Kd.C_drewN ?_ _) | (with_reducible refine Kd.C_drew ?_) | exact HR240_4.out)) | (with_reducible refine Kd.C_alloc ?_ _) | (with_reducible refine Kd.C_drewN ?_ _) | (with_reducible refine Kd.C_drew ?_)))
                          (case side10 => exact HC240_4.out)
                          (case side11 => repeat (first | exact (by repeat (first | (with_reducible exact HR240_5.out) | (with_reducible refine Kd.C_alloc ?_ _) | (with_reducible refine Kd.C_drewN ?_ _) | (with_reducible refine Kd.C_drew ?_) | exact HR240_5.out)) | (with_reducible refine Kd.C_alloc ?_ _) | (with_reducible refine Kd.C_drewN ?_ _) | (with_reducible refine Kd.C_drew ?_)))
                          (case side12 => exact HC240_5.out)
                          rintro e w35 ⟨rfl, hb⟩
                          have HS0_ := (hb.cell (World.block_lt_of_cell? _ _ (hHeld.1))).trans (hHeld.1)
                          have HS1_ := (hb.cell (World.block_lt_of_cell? _ _ (hHeld.2.1))).trans (hHeld.2.1)
                          have HS2_ := (hb.cell (World.block_lt_of_cell? _ _ (hHeld.2.2.1))).trans (hHeld.2.2.1)
                          have HS3_ := (hb.cell (World.block_lt_of_cell? _ _ (hHeld.2.2.2.1))).trans (hHeld.2.2.2.1)
                          have HS4_ := (hb.cell (World.block_lt_of_cell? _ _ (hHeld.2.2.2.2.1))).trans (hHeld.2.2.2.2.1)
                          have HS5_ := (hb.cell (World.block_lt_of_cell? _ _ (hHeld.2.2.2.2.2.1))).trans (hHeld.2.2.2.2.2.1)
                          have HS6_ := (hb.cell (World.block_lt_of_cell? _ _ (hHeld.2.2.2.2.2.2.1))).trans (hHeld.2.2.2.2.2.2.1)
                          have HS7_ := (hb.cell (World.block_lt_of_cell? _ _ (hHeld.2.2.2.2.2.2.2.1))).trans (hHeld.2.2.2.2.2.2.2.1)
                          have HS8_ := (hb.cell (World.block_lt_of_cell? _ _ (hHeld.2.2.2.2.2.2.2.2.1))).trans (hHeld.2.2.2.2.2.2.2.2.1)
                          have HS9_ := (hb.cell (World.block_lt_of_cell? _ _ (hHeld.2.2.2.2.2.2.2.2.2.1))).trans (hHeld.2.2.2.2.2.2.2.2.2.1)
                          have HS10_ := (hb.cell (World.block_lt_of_cell? _ _ (hHeld.2.2.2.2.2.2.2.2.2.2.1))).trans (hHeld.2.2.2.2.2.2.2.2.2.2.1)
                          have HS11_ := (hb.cell (World.block_lt_of_cell? _ _ (hHeld.2.2.2.2.2.2.2.2.2.2.2.1))).trans (hHeld.2.2.2.2.2.2.2.2.2.2.2.1)
                          have HS12_ := (hb.cell (World.block_lt_of_cell? _ _ (hHeld.2.2.2.2.2.2.2.2.2.2.2.2.1))).trans (hHeld.2.2.2.2.2.2.2.2.2.2.2.2.1)
                          have HS13_ := (hb.cell (World.block_lt_of_cell? _ _ (hHeld.2.2.2.2.2.2.2.2.2.2.2.2.2.1))).trans (hHeld.2.2.2.2.2.2.2.2.2.2.2.2.2.1)
                          have HS14_ := (hb.cell (World.block_lt_of_cell? _ _ (hHeld.2.2.2.2.2.2.2.2.2.2.2.2.2.2.1))).trans (hHeld.2.2.2.2.2.2.2.2.2.2.2.2.2.2.1)
                          have HS15_ := (hb.cell (World.block_lt_of_cell? _ _ (hHeld.2.2.2.2.2.2.2.2.2.2.2.2.2.2.2.1))).trans (hHeld.2.2.2.2.2.2.2.2.2.2.2.2.2.2.2.1)
                          have HS16_ := (hb.cell (World.block_lt_of_cell? _ _ (hHeld.2.2.2.2.2.2.2.2.2.2.2.2.2.2.2.2.1))).trans (hHeld.2.2.2.2.2.2.2.2.2.2.2.2.2.2.2.2.1)
                          have HS17_ := (hb.cell (World.block_lt_of_cell? _ _ (hHeld.2.2.2.2.2.2.2.2.2.2.2.2.2.2.2.2.2.1))).trans (hHeld.2.2.2.2.2.2.2.2.2.2.2.2.2.2.2.2.2.1)
                          have HS18_ := (hb.cell (World.block_lt_of_cell? _ _ (hHeld.2.2.2.2.2.2.2.2.2.2.2.2.2.2.2.2.2.2.1))).trans (hHeld.2.2.2.2.2.2.2.2.2.2.2.2.2.2.2.2.2.2.1)
                          have HS19_ := (hb.cell (World.block_lt_of_cell? _ _ (hHeld.2.2.2.2.2.2.2.2.2.2.2.2.2.2.2.2.2.2.2.1))).trans (hHeld.2.2.2.2.2.2.2.2.2.2.2.2.2.2.2.2.2.2.2.1)
                          have HS20_ := (hb.cell (World.block_lt_of_cell? _ _ (hHeld.2.2.2.2.2.2.2.2.2.2.2.2.2.2.2.2.2.2.2.2.1))).trans (hHeld.2.2.2.2.2.2.2.2.2.2.2.2.2.2.2.2.2.2.2.2.1)
                          have HS21_ := (hb.cell (World.block_lt_of_cell? _ _ (hHeld.2.2.2.2.2.2.2.2.2.2.2.2.2.2.2.2.2.2.2.2.2.1))).trans (hHeld.2.2.2.2.2.2.2.2.2.2.2.2.2.2.2.2.2.2.2.2.2.1)
                          have HS22_ := (hb.cell (World.block_lt_of_cell? _ _ (hHeld.2.2.2.2.2.2.2.2.2.2.2.2.2.2.2.2.2.2.2.2.2.2.1))).trans (hHeld.2.2.2.2.2.2.2.2.2.2.2.2.2.2.2.2.2.2.2.2.2.2.1)
                          have HS23_ := (hb.cell (World.block_lt_of_cell? _ _ (hHeld.2.2.2.2.2.2.2.2.2.2.2.2.2.2.2.2.2.2.2.2.2.2.2.1))).trans (hHeld.2.2.2.2.2.2.2.2.2.2.2.2.2.2.2.2.2.2.2.2.2.2.2.1)
                          have HS24_ := (hb.cell (World.block_lt_of_cell? _ _ (hHeld.2.2.2.2.2.2.2.2.2.2.2.2.2.2.2.2.2.2.2.2.2.2.2.2.1))).trans (hHeld.2.2.2.2.2.2.2.2.2.2.2.2.2.2.2.2.2.2.2.2.2.2.2.2.1)
                          have HS25_ := (hb.cell (World.block_lt_of_cell? _ _ (hHeld.2.2.2.2.2.2.2.2.2.2.2.2.2.2.2.2.2.2.2.2.2.2.2.2.2.1))).trans (hHeld.2.2.2.2.2.2.2.2.2.2.2.2.2.2.2.2.2.2.2.2.2.2.2.2.2.1)
                          have HS26_ := (hb.cell (World.block_lt_of_cell? _ _ (hHeld.2.2.2.2.2.2.2.2.2.2.2.2.2.2.2.2.2.2.2.2.2.2.2.2.2.2.1))).trans (hHeld.2.2.2.2.2.2.2.2.2.2.2.2.2.2.2.2.2.2.2.2.2.2.2.2.2.2.1)
                          have HS27_ := (hb.cell (World.block_lt_of_cell? _ _ (hHeld.2.2.2.2.2.2.2.2.2.2.2.2.2.2.2.2.2.2.2.2.2.2.2.2.2.2.2.1))).trans (hHeld.2.2.2.2.2.2.2.2.2.2.2.2.2.2.2.2.2.2.2.2.2.2.2.2.2.2.2.1)
                          have HS28_ := (hb.cell (World.block_lt_of_cell? _ _ (hHeld.2.2.2.2.2.2.2.2.2.2.2.2.2.2.2.2.2.2.2.2.2.2.2.2.2.2.2.2.1))).trans (hHeld.2.2.2.2.2.2.2.2.2.2.2.2.2.2.2.2.2.2.2.2.2.2.2.2.2.2.2.2.1)
                          have HS29_ := (hb.cell (World.block_lt_of_cell? _ _ (hHeld.2.2.2.2.2.2.2.2.2.2.2.2.2.2.2.2.2.2.2.2.2.2.2.2.2.2.2.2.2.1))).trans (hHeld.2.2.2.2.2.2.2.2.2.2.2.2.2.2.2.2.2.2.2.2.2.2.2.2.2.2.2.2.2.1)
                          have HS30_ := (hb.cell (World.block_lt_of_cell? _ _ (hHeld.2.2.2.2.2.2.2.2.2.2.2.2.2.2.2.2.2.2.2.2.2.2.2.2.2.2.2.2.2.2.1))).trans (hHeld.2.2.2.2.2.2.2.2.2.2.2.2.2.2.2.2.2.2.2.2.2.2.2.2.2.2.2.2.2.2.1)
                          have HS31_ := (hb.cell (World.block_lt_of_cell? _ _ (hHeld.2.2.2.2.2.2.2.2.2.2.2.2.2.2.2.2.2.2.2.2.2.2.2.2.2.2.2.2.2.2.2.1))).trans (hHeld.2.2.2.2.2.2.2.2.2.2.2.2.2.2.2.2.2.2.2.2.2.2.2.2.2.2.2.2.2.2.2.1)
                          have HS32_ := (hb.cell (World.block_lt_of_cell? _ _ (hHeld.2.2.2.2.2.2.2.2.2.2.2.2.2.2.2.2.2.2.2.2.2.2.2.2.2.2.2.2.2.2.2.2.1))).trans (hHeld.2.2.2.2.2.2.2.2.2.2.2.2.2.2.2.2.2.2.2.2.2.2.2.2.2.2.2.2.2.2.2.2.1)
                          have HS33_ := (hb.cell (World.block_lt_of_cell? _ _ (hHeld.2.2.2.2.2.2.2.2.2.2.2.2.2.2.2.2.2.2.2.2.2.2.2.2.2.2.2.2.2.2.2.2.2.1))).trans (hHeld.2.2.2.2.2.2.2.2.2.2.2.2.2.2.2.2.2.2.2.2.2.2.2.2.2.2.2.2.2.2.2.2.2.1)
                          have HS34_ := (hb.cell (World.block_lt_of_cell? _ _ (hHeld.2.2.2.2.2.2.2.2.2.2.2.2.2.2.2.2.2.2.2.2.2.2.2.2.2.2.2.2.2.2.2.2.2.2.1))).trans (hHeld.2.2.2.2.2.2.2.2.2.2.2.2.2.2.2.2.2.2.2.2.2.2.2.2.2.2.2.2.2.2.2.2.2.2.1)
                          have HS35_ := (hb.cell (World.block_lt_of_cell? _ _ (hHeld.2.2.2.2.2.2.2.2.2.2.2.2.2.2.2.2.2.2.2.2.2.2.2.2.2.2.2.2.2.2.2.2.2.2.2))).trans (hHeld.2.2.2.2.2.2.2.2.2.2.2.2.2.2.2.2.2.2.2.2.2.2.2.2.2.2.2.2.2.2.2.2.2.2.2)
                          refine ⟨_, rfl, ?_⟩
                          have n0_ := Aside0.mk (Kd.S_below (by (with_reducible repeat (first | apply Kd.S_alloc | apply Kd.S_drewN | apply Kd.S_drew)); exact HO_9.out) hb)
                          have n1_ := Aside0.mk (Kd.S_below (by (with_reducible repeat (first | apply Kd.S_alloc | apply Kd.S_drewN | apply Kd.S_drew)); exact HO_10.out) hb)
                          have n2_ := Aside0.mk (Kd.R_below (by (with_reducible repeat (first | apply Kd.R_alloc | apply Kd.R_drewN | apply Kd.R_drew)); exact HO_11.out) hb)
                          have n3_ := Aside0.mk (Kd.R_below (by (with_reducible repeat (first | apply Kd.R_alloc | apply Kd.R_drewN | apply Kd.R_drew)); exact HL235_3.out) hb)
                          have n4_ := Aside0.mk (Kd.R_below (by (with_reducible repeat (first | apply Kd.R_alloc | apply Kd.R_drewN | apply Kd.R_drew)); exact HL235_4.out) hb)
                          have n5_ := Aside0.mk (Kd.R_below (by (with_reducible repeat (first | apply Kd.R_alloc | apply Kd.R_drewN | apply Kd.R_drew)); exact HL235_5.out) hb)
                          have n6_ := Aside0.mk (Kd.R_below (by (with_reducible repeat (first | apply Kd.R_alloc | apply Kd.R_drewN | apply Kd.R_drew)); exact HL236_3.out) hb)
                          have n7_ := Aside0.mk (Kd.R_below (by (with_reducible repeat (first | apply Kd.R_alloc | apply Kd.R_drewN | apply Kd.R_drew)); exact HL236_4.out) hb)
                          have n8_ := Aside0.mk (Kd.R_below (by (with_reducible repeat (first | apply Kd.R_alloc | apply Kd.R_drewN | apply Kd.R_drew)); exact HL236_5.out) hb)
                          have n9_ := Aside0.mk (Kd.R_below (by (with_reducible repeat (first | apply Kd.R_alloc | apply Kd.R_drewN | apply Kd.R_drew)); exact HL237_3.out) hb)
                          have n10_ := Aside0.mk (Kd.R_below (by (with_reducible repeat (first | apply Kd.R_alloc | apply Kd.R_drewN | apply Kd.R_drew)); exact HL237_4.out) hb)
                          have n11_ := Aside0.mk (Kd.R_below (by (with_reducible repeat (first | apply Kd.R_alloc | apply Kd.R_drewN | apply Kd.R_drew)); exact HL237_5.out) hb)
                          have n12_ := Aside0.mk (Kd.R_below (by (with_reducible repeat (first | apply Kd.R_alloc | apply Kd.R_drewN | apply Kd.R_drew)); exact HL238_3.out) hb)
                          have n13_ := Aside0.mk (Kd.R_below (by (with_reducible repeat (first | apply Kd.R_alloc | apply Kd.R_drewN | apply Kd.R_drew)); exact HL238_4.out) hb)
                          have n14_ := Aside0.mk (Kd.R_below (by (with_reducible repeat (first | apply Kd.R_alloc | apply Kd.R_drewN | apply Kd.R_drew)); exact HL238_5.out) hb)
                          have n15_ := Aside0.mk (Kd.R_below (by (with_reducible repeat (first | apply Kd.R_alloc | apply Kd.R_drewN | apply Kd.R_drew)); exact HL239_3.out) hb)
                          have n16_ := Aside0.mk (Kd.R_below (by (with_reducible repeat (first | apply Kd.R_alloc | apply Kd.R_drewN | apply Kd.R_drew)); exact HL239_4.out) hb)
                          have n17_ := Aside0.mk (Kd.R_below (by (with_reducible repeat (first | apply Kd.R_alloc | apply Kd.R_drewN | apply Kd.R_drew)); exact HL239_5.out) hb)
                          have n18_ := Aside0.mk (Kd.R_below (by (with_reducible repeat (first | apply Kd.R_alloc | apply Kd.R_drewN | apply Kd.R_drew)); exact HL240_3.out) hb)
                          have n19_ := Aside0.mk (Kd.R_below (by (with_reducible repeat (first | apply Kd.R_alloc | apply Kd.R_drewN | apply Kd.R_drew)); exact HL240_4.out) hb)
                          have n20_ := Aside0.mk (Kd.R_below (by (with_reducible repeat (first | apply Kd.R_alloc | apply Kd.R_drewN | apply Kd.R_drew)); exact HL240_5.out) hb)
                          have n21_ := Aside0.mk (Kd.C_below (by repeat (first | (with_reducible exact HR235_3.out) | (with_reducible refine Kd.C_alloc ?_ _) | (with_reducible refine Kd.C_drewN ?_ _) | (with_reducible refine Kd.C_drew ?_) | exact HR235_3.out)) hb)
                          have n22_ := Aside0.mk (Kd.C_below (by repeat (first | (with_reducible exact HR235_4.out) | (with_reducible refine Kd.C_alloc ?_ _) | (with_reducible refine Kd.C_drewN ?_ _) | (with_reducible refine Kd.C_drew ?_) | exact HR235_4.out)) hb)
                          have n23_ := Aside0.mk (Kd.C_below (by repeat (first | (with_reducible exact HR235_5.out) | (with_reducible refine Kd.C_alloc ?_ _) | (with_reducible refine Kd.C_drewN ?_ _) | (with_reducible refine Kd.C_drew ?_) | exact HR235_5.out)) hb)
                          have n24_ := Aside0.mk (Kd.C_below (by repeat (first | (with_reducible exact HR236_3.out) | (with_reducible refine Kd.C_alloc ?_ _) | (with_reducible refine Kd.C_drewN ?_ _) | (with_reducible refine Kd.C_drew ?_) | exact HR236_3.out)) hb)
                          have n25_ := Aside0.mk (Kd.C_below (by repeat (first | (with_reducible exact HR236_4.out) | (with_reducible refine Kd.C_alloc ?_ _) | (with_reducible refine Kd.C_drewN ?_ _) | (with_reducible refine Kd.C_drew ?_) | exact HR236_4.out)) hb)
                          have n26_ := Aside0.mk (Kd.C_below (by repeat (first | (with_reducible exact HR236_5.out) | (with_reducible refine Kd.C_alloc ?_ _) | (with_reducible refine Kd.C_drewN ?_ _) | (with_reducible refine Kd.C_drew ?_) | exact HR236_5.out)) hb)
                          have n27_ := Aside0.mk (Kd.C_below (by repeat (first | (with_reducible exact HR237_3.out) | (with_reducible refine Kd.C_alloc ?_ _) | (with_reducible refine Kd.C_drewN ?_ _) | (with_reducible refine Kd.C_drew ?_) | exact HR237_3.out)) hb)
                          have n28_ := Aside0.mk (Kd.C_below (by repeat (first | (with_reducible exact HR237_4.out) | (with_reducible refine Kd.C_alloc ?_ _) | (with_reducible refine Kd.C_drewN ?_ _) | (with_reducible refine Kd.C_drew ?_) | exact HR237_4.out)) hb)
                          have n29_ := Aside0.mk (Kd.C_below (by repeat (first | (with_reducible exact HR237_5.out) | (with_reducible refine Kd.C_alloc ?_ _) | (with_reducible refine Kd.C_drewN ?_ _) | (with_reducible refine Kd.C_drew ?_) | exact HR237_5.out)) hb)
                          have n30_ := Aside0.mk (Kd.C_below (by repeat (first | (with_reducible exact HR238_3.out) | (with_reducible refine Kd.C_alloc ?_ _) | (with_reducible refine Kd.C_drewN ?_ _) | (with_reducible refine Kd.C_drew ?_) | exact HR238_3.out)) hb)
                          have n31_ := Aside0.mk (Kd.C_below (by repeat (first | (with_reducible exact HR238_4.out) | (with_reducible refine Kd.C_alloc ?_ _) | (with_reducible refine Kd.C_drewN ?_ _) | (with_reducible refine Kd.C_drew ?_) | exact HR238_4.out)) hb)
                          have n32_ := Aside0.mk (Kd.C_below (by repeat (first | (with_reducible exact HR238_5.out) | (with_reducible refine Kd.C_alloc ?_ _) | (with_reducible refine Kd.C_drewN ?_ _) | (with_reducible refine Kd.C_drew ?_) | exact HR238_5.out)) hb)
                          have n33_ := Aside0.mk (Kd.C_below (by repeat (first | (with_reducible exact HR239_3.out) | (with_reducible refine Kd.C_alloc ?_ _) | (with_reducible refine Kd.C_drewN ?_ _) | (with_reducible refine Kd.C_drew ?_) | exact HR239_3.out)) hb)
                          have n34_ := Aside0.mk (Kd.C_below (by repeat (first | (with_reducible exact HR239_4.out) | (with_reducible refine Kd.C_alloc ?_ _) | (with_reducible refine Kd.C_drewN ?_ _) | (with_reducible refine Kd.C_drew ?_) | exact HR239_4.out)) hb)
                          have n35_ := Aside0.mk (Kd.C_below (by repeat (first | (with_reducible exact HR239_5.out) | (with_reducible refine Kd.C_alloc ?_ _) | (with_reducible refine Kd.C_drewN ?_ _) | (with_reducible refine Kd.C_drew ?_) | exact HR239_5.out)) hb)
                          have n36_ := Aside0.mk (Kd.C_below (by repeat (first | (with_reducible exact HR240_3.out) | (with_reducible refine Kd.C_alloc ?_ _) | (with_reducible refine Kd.C_drewN ?_ _) | (with_reducible refine Kd.C_drew ?_) | exact HR240_3.out)) hb)
                          have n37_ := Aside0.mk (Kd.C_below (by repeat (first | (with_reducible exact HR240_4.out) | (with_reducible refine Kd.C_alloc ?_ _) | (with_reducible refine Kd.C_drewN ?_ _) | (with_reducible refine Kd.C_drew ?_) | exact HR240_4.out)) hb)
                          have n38_ := Aside0.mk (Kd.C_below (by repeat (first | (with_reducible exact HR240_5.out) | (with_reducible refine Kd.C_alloc ?_ _) | (with_reducible refine Kd.C_drewN ?_ _) | (with_reducible refine Kd.C_drew ?_) | exact HR240_5.out)) hb)
                          have n39_ := Aside0.mk (below_step (by repeat (first | (with_reducible first | exact HB.out | apply below_alloc | apply pw_below_drewN | apply below_drew1) | exact HB.out)) hb)
                          clear HO_9
                          clear HO_10
                          clear HO_11
                          clear HL235_3
                          clear HL235_4
                          clear HL235_5
                          clear HL236_3
                          clear HL236_4
                          clear HL236_5
                          clear HL237_3
                          clear HL237_4
                          clear HL237_5
                          clear HL238_3
                          clear HL238_4
                          clear HL238_5
                          clear HL239_3
                          clear HL239_4
                          clear HL239_5
                          clear HL240_3
                          clear HL240_4
                          clear HL240_5
                          clear HR235_3
                          clear HR235_4
                          clear HR235_5
                          clear HR236_3
                          clear HR236_4
                          clear HR236_5
                          clear HR237_3
                          clear HR237_4
                          clear HR237_5
                          clear HR238_3
                          clear HR238_4
                          clear HR238_5
                          clear HR239_3
                          clear HR239_4
                          clear HR239_5
                          clear HR240_3
                          clear HR240_4
                          clear HR240_5
                          clear HB
                          have HO_9 := n0_
                          have HO_10 := n1_
                          have HO_11 := n2_
                          have HL235_3 := n3_
                          have HL235_4 := n4_
                          have HL235_5 := n5_
                          have HL236_3 := n6_
                          have HL236_4 := n7_
                          have HL236_5 := n8_
                          have HL237_3 := n9_
                          have HL237_4 := n10_
                          have HL237_5 := n11_
                          have HL238_3 := n12_
                          have HL238_4 := n13_
                          have HL238_5 := n14_
                          have HL239_3 := n15_
                          have HL239_4 := n16_
                          have HL239_5 := n17_
                          have HL240_3 := n18_
                          have HL240_4 := n19_
                          have HL240_5 := n20_
                          have HR235_3 := n21_
                          have HR235_4 := n22_
                          have HR235_5 := n23_
                          have HR236_3 := n24_
                          have HR236_4 := n25_
                          have HR236_5 := n26_
                          have HR237_3 := n27_
                          have HR237_4 := n28_
                          have HR237_5 := n29_
                          have HR238_3 := n30_
                          have HR238_4 := n31_
                          have HR238_5 := n32_
                          have HR239_3 := n33_
                          have HR239_4 := n34_
                          have HR239_5 := n35_
                          have HR240_3 := n36_
                          have HR240_4 := n37_
                          have HR240_5 := n38_
                          have HB := n39_
                          clear n0_ n1_ n2_ n3_ n4_ n5_ n6_ n7_ n8_ n9_ n10_ n11_ n12_ n13_ n14_ n15_ n16_ n17_ n18_ n19_ n20_ n21_ n22_ n23_ n24_ n25_ n26_ n27_ n28_ n29_ n30_ n31_ n32_ n33_ n34_ n35_ n36_ n37_ n38_ n39_
                          (try clear hb)
                          (try clear hb2)
                          (try clear hk)
                          (try clear hi)
                          refine hK.out _ _ ⟨HS0_, HS1_, HS2_, HS3_, HS4_, HS5_, HS6_, HS7_, HS8_, HS9_, HS10_, HS11_, HS12_, HS13_, HS14_, HS15_, HS16_, HS17_, HS18_, HS19_, HS20_, HS21_, HS22_, HS23_, HS24_, HS25_, HS26_, HS27_, HS28_, HS29_, HS30_, HS31_, HS32_, HS33_, HS34_, HS35_⟩ (fun hHeld => ?_)
                          clear hK K
                          refine norm_ (a' := ?_) ?_ ?_
                          rotate_left
                          · show Act.put _ (some 88) _ = _
                            simp only [Act.put, List.setIfInBounds_toArray, List.set_cons_zero, List.set_cons_succ, i64_w, i32_w]
                            rfl
                          refine pure_ (i := 36) (N := some 89) (v := ?_) (a' := ?_) #[true, true, true, true, true, true, true, true, true, true, true, true, true, true, true, true, true, true, true, true, true, true, true, true, true, true, true, true, true, true, true, true, true, true, true, true, true, false] rfl rfl (any_of HT_.out (by kernel_rfl)) (fun _ _ _ h => h) (Or.inl ⟨by rfl, ?_⟩) ?_ ?_
                          rotate_left
                          · intro w'
                            go_simp
                            with_reducible rfl
                          rotate_left
                          · simp only [Act.put, List.setIfInBounds_toArray, List.set_cons_zero, List.set_cons_succ, i64_w, i32_w]
                            rfl
                          refine pure_ (i := 37) (N := some 90) (v := ?_) (a' := ?_) #[true, true, true, true, true, true, true, true, true, true, true, true, true, true, true, true, true, true, true, true, true, true, true, true, true, true, true, true, true, true, true, true, true, true, true, true, true, true] rfl rfl (any_of HT_.out (by kernel_rfl)) (fun _ _ _ h => h) (Or.inl ⟨by rfl, ?_⟩) ?_ ?_
                          rotate_left
                          · intro w'
                            go_simp
                            with_reducible rfl
                          rotate_left
                          · simp only [Act.put, List.setIfInBounds_toArray, List.set_cons_zero, List.set_cons_succ, i64_w, i32_w]
                            rfl
                          refine done_ (done_of HT_.out (by kernel_rfl)) ?_
                          try go_wp2
                          go_meet
                          case rel => exact ⟨_, (!t241), (by first | rfl | (simp; done) | (simp [*]; done) | exact isEmpty_bne _), H', ⟨by have := HJ9.out; have := HK2.out; first | omega | exact Nat.le_refl _⟩, ⟨by (with_reducible repeat (first | apply Kd.S_alloc | apply Kd.S_drewN | apply Kd.S_drew)); exact HO_9.out⟩, ⟨by (with_reducible repeat (first | apply Kd.S_alloc | apply Kd.S_drewN | apply Kd.S_drew)); exact HO_10.out⟩, ⟨by (with_reducible repeat (first | apply Kd.R_alloc | apply Kd.R_drewN | apply Kd.R_drew)); exact HO_11.out⟩, ⟨by repeat (first | (with_reducible first | exact HB.out | apply below_alloc | apply pw_below_drewN | apply below_drew1) | exact HB.out)⟩⟩
                        · rw [if_neg c31] at H
                          have c31b0 : (((rd_T33 t223 x13_2).f1) == ((rd_T33 t226 x13_2).f1)) = false := beq_eq_false_iff_ne.mpr c31
                          have c31b1 : (((rd_T33 t223 x13_2).f1) != ((rd_T33 t226 x13_2).f1)) = true := bne_iff_ne.mpr c31
                          have H' := Aside0.mk H
                          clear H
                          try go_wp2
                          have n0_ := Aside0.mk (Kd.S_drew HO_9.out)
                          have n1_ := Aside0.mk (Kd.S_drew HO_10.out)
                          have n2_ := Aside0.mk (Kd.R_drew HO_11.out)
                          have n3_ := Aside0.mk (below_drew1 HB.out)
                          clear HO_9
                          clear HO_10
                          clear HO_11
                          clear HB
                          have HO_9 := n0_
                          have HO_10 := n1_
                          have HO_11 := n2_
                          have HB := n3_
                          clear n0_ n1_ n2_ n3_
                          have p235 : 0 ≤ (x13_2 : Int) := of_decide_eq_true (by first | (with_reducible assumption) | assumption)
                          have q235 : x13_2 < (t223.length : Int) := of_decide_eq_true (by first | (with_reducible assumption) | assumption)
                          try (obtain ⟨Az_, cz_, ez_⟩ := Kd.S_slice HO_9.out; subst ez_)
                          obtain ⟨ad235, A235_3, c235_3, A235_4, c235_4, A235_5, c235_5, e235, hx235_0, hx235_1, hx235_2, hx235_3, hx235_4, hx235_5, hl235_3, hi235_3, hl235_4, hi235_4, hl235_5, hi235_5⟩ := at_T33 (Kd.S_reads' HO_9.out).2.2 x13_2 p235 q235
                          cases e235
                          obtain ⟨ce235, hce235, hMe235, hcc235⟩ := Kd.S_get HO_9.out z33 x13_2 p235 (by first | exact q235 | exact of_decide_eq_true (by first | (with_reducible assumption) | assumption) | (have e_ := (Kd.S_reads' HO_9.out).1; omega))
                          obtain ⟨ve235_3, ve235_4, ve235_5, rfl, ge235_3, ge235_4, ge235_5⟩ := k33_openM hMe235
                          have hv235_3 := hcc235 3 _ rfl
                          rw [add_field _ _ 3 (by omega)] at hv235_3
                          replace hv235_3 := Option.some.inj (hv235_3.symm.trans hx235_3)
                          rw [hv235_3] at ge235_3
                          have HL235_3 := Aside0.mk (show Kd.R (Kd.int .u64) 47 _ _ _ _ ((rd_T33 t223 x13_2).f2.f1) from ge235_3)
                          clear hv235_3 ge235_3
                          have hv235_4 := hcc235 4 _ rfl
                          rw [add_field _ _ 4 (by omega)] at hv235_4
                          replace hv235_4 := Option.some.inj (hv235_4.symm.trans hx235_4)
                          rw [hv235_4] at ge235_4
                          have HL235_4 := Aside0.mk (show Kd.R (Kd.int .u8) 5 _ _ _ _ ((rd_T33 t223 x13_2).f2.f2) from ge235_4)
                          clear hv235_4 ge235_4
                          have hv235_5 := hcc235 5 _ rfl
                          rw [add_field _ _ 5 (by omega)] at hv235_5
                          replace hv235_5 := Option.some.inj (hv235_5.symm.trans hx235_5)
                          rw [hv235_5] at ge235_5
                          have HL235_5 := Aside0.mk (show Kd.R (Kd.int .u64) 47 _ _ _ _ ((rd_T33 t223 x13_2).f2.f3) from ge235_5)
                          clear hv235_5 ge235_5
                          clear hcc235 hce235
                          have HR235_3 := Aside0.mk hi235_3
                          have HC235_3 := Aside0.mk hl235_3
                          clear hi235_3 hl235_3
                          have HR235_4 := Aside0.mk hi235_4
                          have HC235_4 := Aside0.mk hl235_4
                          clear hi235_4 hl235_4
                          have HR235_5 := Aside0.mk hi235_5
                          have HC235_5 := Aside0.mk hl235_5
                          clear hi235_5 hl235_5
                          replace p235 := eq_true p235
                          replace q235 := eq_true q235
                          (try (have ea_ := Option.some.inj (HS3_.symm.trans hx235_3); injection ea_ with ea_ en_ ec_; subst ea_; subst ec_; clear en_))
                          (try (have ea_ := Option.some.inj (HS4_.symm.trans hx235_4); injection ea_ with ea_ en_ ec_; subst ea_; subst ec_; clear en_))
                          (try (have ea_ := Option.some.inj (HS5_.symm.trans hx235_5); injection ea_ with ea_ en_ ec_; subst ea_; subst ec_; clear en_))
                          obtain ⟨Ao37, co37, eo37⟩ := Kd.S_slice HO_10.out
                          (first | subst eo37 | (injection eo37 with f1_ f2_ f3_; have f4_ := f1_.symm; have f5_ := f3_.symm; clear f1_ f2_ f3_; subst f4_; subst f5_))
                          have p236 : 0 ≤ (x13_2 : Int) := of_decide_eq_true (by first | (with_reducible assumption) | assumption)
                          have q236 : x13_2 < (t226.length : Int) := of_decide_eq_true (by first | (with_reducible assumption) | assumption)
                          try (obtain ⟨Az_, cz_, ez_⟩ := Kd.S_slice HO_10.out; subst ez_)
                          obtain ⟨ad236, A236_3, c236_3, A236_4, c236_4, A236_5, c236_5, e236, hx236_0, hx236_1, hx236_2, hx236_3, hx236_4, hx236_5, hl236_3, hi236_3, hl236_4, hi236_4, hl236_5, hi236_5⟩ := at_T33 (Kd.S_reads' HO_10.out).2.2 x13_2 p236 q236
                          cases e236
                          obtain ⟨ce236, hce236, hMe236, hcc236⟩ := Kd.S_get HO_10.out z33 x13_2 p236 (by first | exact q236 | exact of_decide_eq_true (by first | (with_reducible assumption) | assumption) | (have e_ := (Kd.S_reads' HO_10.out).1; omega))
                          obtain ⟨ve236_3, ve236_4, ve236_5, rfl, ge236_3, ge236_4, ge236_5⟩ := k33_openM hMe236
                          have hv236_3 := hcc236 3 _ rfl
                          rw [add_field _ _ 3 (by omega)] at hv236_3
                          replace hv236_3 := Option.some.inj (hv236_3.symm.trans hx236_3)
                          rw [hv236_3] at ge236_3
                          have HL236_3 := Aside0.mk (show Kd.R (Kd.int .u64) 47 _ _ _ _ ((rd_T33 t226 x13_2).f2.f1) from ge236_3)
                          clear hv236_3 ge236_3
                          have hv236_4 := hcc236 4 _ rfl
                          rw [add_field _ _ 4 (by omega)] at hv236_4
                          replace hv236_4 := Option.some.inj (hv236_4.symm.trans hx236_4)
                          rw [hv236_4] at ge236_4
                          have HL236_4 := Aside0.mk (show Kd.R (Kd.int .u8) 5 _ _ _ _ ((rd_T33 t226 x13_2).f2.f2) from ge236_4)
                          clear hv236_4 ge236_4
                          have hv236_5 := hcc236 5 _ rfl
                          rw [add_field _ _ 5 (by omega)] at hv236_5
                          replace hv236_5 := Option.some.inj (hv236_5.symm.trans hx236_5)
                          rw [hv236_5] at ge236_5
                          have HL236_5 := Aside0.mk (show Kd.R (Kd.int .u64) 47 _ _ _ _ ((rd_T33 t226 x13_2).f2.f3) from ge236_5)
                          clear hv236_5 ge236_5
                          clear hcc236 hce236
                          have HR236_3 := Aside0.mk hi236_3
                          have HC236_3 := Aside0.mk hl236_3
                          clear hi236_3 hl236_3
                          have HR236_4 := Aside0.mk hi236_4
                          have HC236_4 := Aside0.mk hl236_4
                          clear hi236_4 hl236_4
                          have HR236_5 := Aside0.mk hi236_5
                          have HC236_5 := Aside0.mk hl236_5
                          clear hi236_5 hl236_5
                          replace p236 := eq_true p236
                          replace q236 := eq_true q236
                          (try (have ea_ := Option.some.inj (HS3_.symm.trans hx236_3); injection ea_ with ea_ en_ ec_; subst ea_; subst ec_; clear en_))
                          (try (have ea_ := Option.some.inj (HS4_.symm.trans hx236_4); injection ea_ with ea_ en_ ec_; subst ea_; subst ec_; clear en_))
                          (try (have ea_ := Option.some.inj (HS5_.symm.trans hx236_5); injection ea_ with ea_ en_ ec_; subst ea_; subst ec_; clear en_))
                          have p237 : 0 ≤ (x13_2 : Int) := of_decide_eq_true (by first | (with_reducible assumption) | assumption)
                          have q237 : x13_2 < (t223.length : Int) := of_decide_eq_true (by first | (with_reducible assumption) | assumption)
                          try (obtain ⟨Az_, cz_, ez_⟩ := Kd.S_slice HO_9.out; subst ez_)
                          obtain ⟨ad237, A237_3, c237_3, A237_4, c237_4, A237_5, c237_5, e237, hx237_0, hx237_1, hx237_2, hx237_3, hx237_4, hx237_5, hl237_3, hi237_3, hl237_4, hi237_4, hl237_5, hi237_5⟩ := at_T33 (Kd.S_reads' HO_9.out).2.2 x13_2 p237 q237
                          obtain rfl : ad235 = ad237 := (by injection e237)
                          obtain ⟨ce237, hce237, hMe237, hcc237⟩ := Kd.S_get HO_9.out z33 x13_2 p237 (by first | exact q237 | exact of_decide_eq_true (by first | (with_reducible assumption) | assumption) | (have e_ := (Kd.S_reads' HO_9.out).1; omega))
                          obtain ⟨ve237_3, ve237_4, ve237_5, rfl, ge237_3, ge237_4, ge237_5⟩ := k33_openM hMe237
                          have hv237_3 := hcc237 3 _ rfl
                          rw [add_field _ _ 3 (by omega)] at hv237_3
                          replace hv237_3 := Option.some.inj (hv237_3.symm.trans hx237_3)
                          rw [hv237_3] at ge237_3
                          have HL237_3 := Aside0.mk (show Kd.R (Kd.int .u64) 47 _ _ _ _ ((rd_T33 t223 x13_2).f2.f1) from ge237_3)
                          clear hv237_3 ge237_3
                          have hv237_4 := hcc237 4 _ rfl
                          rw [add_field _ _ 4 (by omega)] at hv237_4
                          replace hv237_4 := Option.some.inj (hv237_4.symm.trans hx237_4)
                          rw [hv237_4] at ge237_4
                          have HL237_4 := Aside0.mk (show Kd.R (Kd.int .u8) 5 _ _ _ _ ((rd_T33 t223 x13_2).f2.f2) from ge237_4)
                          clear hv237_4 ge237_4
                          have hv237_5 := hcc237 5 _ rfl
                          rw [add_field _ _ 5 (by omega)] at hv237_5
                          replace hv237_5 := Option.some.inj (hv237_5.symm.trans hx237_5)
                          rw [hv237_5] at ge237_5
                          have HL237_5 := Aside0.mk (show Kd.R (Kd.int .u64) 47 _ _ _ _ ((rd_T33 t223 x13_2).f2.f3) from ge237_5)
                          clear hv237_5 ge237_5
                          clear hcc237 hce237
                          have HR237_3 := Aside0.mk hi237_3
                          have HC237_3 := Aside0.mk hl237_3
                          clear hi237_3 hl237_3
                          have HR237_4 := Aside0.mk hi237_4
                          have HC237_4 := Aside0.mk hl237_4
                          clear hi237_4 hl237_4
                          have HR237_5 := Aside0.mk hi237_5
                          have HC237_5 := Aside0.mk hl237_5
                          clear hi237_5 hl237_5
                          replace p237 := eq_true p237
                          replace q237 := eq_true q237
                          (try (have ea_ := Option.some.inj (HS3_.symm.trans hx237_3); injection ea_ with ea_ en_ ec_; subst ea_; subst ec_; clear en_))
                          (try (have ea_ := Option.some.inj (HS4_.symm.trans hx237_4); injection ea_ with ea_ en_ ec_; subst ea_; subst ec_; clear en_))
                          (try (have ea_ := Option.some.inj (HS5_.symm.trans hx237_5); injection ea_ with ea_ en_ ec_; subst ea_; subst ec_; clear en_))
                          have ea_ := Option.some.inj (hx235_3.symm.trans hx237_3)
                          injection ea_ with ea_ en_ ec_
                          subst ea_
                          subst ec_
                          clear en_
                          have ea_ := Option.some.inj (hx235_4.symm.trans hx237_4)
                          injection ea_ with ea_ en_ ec_
                          subst ea_
                          subst ec_
                          clear en_
                          have ea_ := Option.some.inj (hx235_5.symm.trans hx237_5)
                          injection ea_ with ea_ en_ ec_
                          subst ea_
                          subst ec_
                          clear en_
                          have p238 : 0 ≤ (x13_2 : Int) := of_decide_eq_true (by first | (with_reducible assumption) | assumption)
                          have q238 : x13_2 < (t226.length : Int) := of_decide_eq_true (by first | (with_reducible assumption) | assumption)
                          try (obtain ⟨Az_, cz_, ez_⟩ := Kd.S_slice HO_10.out; subst ez_)
                          obtain ⟨ad238, A238_3, c238_3, A238_4, c238_4, A238_5, c238_5, e238, hx238_0, hx238_1, hx238_2, hx238_3, hx238_4, hx238_5, hl238_3, hi238_3, hl238_4, hi238_4, hl238_5, hi238_5⟩ := at_T33 (Kd.S_reads' HO_10.out).2.2 x13_2 p238 q238
                          obtain rfl : ad236 = ad238 := (by injection e238)
                          obtain ⟨ce238, hce238, hMe238, hcc238⟩ := Kd.S_get HO_10.out z33 x13_2 p238 (by first | exact q238 | exact of_decide_eq_true (by first | (with_reducible assumption) | assumption) | (have e_ := (Kd.S_reads' HO_10.out).1; omega))
                          obtain ⟨ve238_3, ve238_4, ve238_5, rfl, ge238_3, ge238_4, ge238_5⟩ := k33_openM hMe238
                          have hv238_3 := hcc238 3 _ rfl
                          rw [add_field _ _ 3 (by omega)] at hv238_3
                          replace hv238_3 := Option.some.inj (hv238_3.symm.trans hx238_3)
                          rw [hv238_3] at ge238_3
                          have HL238_3 := Aside0.mk (show Kd.R (Kd.int .u64) 47 _ _ _ _ ((rd_T33 t226 x13_2).f2.f1) from ge238_3)
                          clear hv238_3 ge238_3
                          have hv238_4 := hcc238 4 _ rfl
                          rw [add_field _ _ 4 (by omega)] at hv238_4
                          replace hv238_4 := Option.some.inj (hv238_4.symm.trans hx238_4)
                          rw [hv238_4] at ge238_4
                          have HL238_4 := Aside0.mk (show Kd.R (Kd.int .u8) 5 _ _ _ _ ((rd_T33 t226 x13_2).f2.f2) from ge238_4)
                          clear hv238_4 ge238_4
                          have hv238_5 := hcc238 5 _ rfl
                          rw [add_field _ _ 5 (by omega)] at hv238_5
                          replace hv238_5 := Option.some.inj (hv238_5.symm.trans hx238_5)
                          rw [hv238_5] at ge238_5
                          have HL238_5 := Aside0.mk (show Kd.R (Kd.int .u64) 47 _ _ _ _ ((rd_T33 t226 x13_2).f2.f3) from ge238_5)
                          clear hv238_5 ge238_5
                          clear hcc238 hce238
                          have HR238_3 := Aside0.mk hi238_3
                          have HC238_3 := Aside0.mk hl238_3
                          clear hi238_3 hl238_3
                          have HR238_4 := Aside0.mk hi238_4
                          have HC238_4 := Aside0.mk hl238_4
                          clear hi238_4 hl238_4
                          have HR238_5 := Aside0.mk hi238_5
                          have HC238_5 := Aside0.mk hl238_5
                          clear hi238_5 hl238_5
                          replace p238 := eq_true p238
                          replace q238 := eq_true q238
                          (try (have ea_ := Option.some.inj (HS3_.symm.trans hx238_3); injection ea_ with ea_ en_ ec_; subst ea_; subst ec_; clear en_))
                          (try (have ea_ := Option.some.inj (HS4_.symm.trans hx238_4); injection ea_ with ea_ en_ ec_; subst ea_; subst ec_; clear en_))
                          (try (have ea_ := Option.some.inj (HS5_.symm.trans hx238_5); injection ea_ with ea_ en_ ec_; subst ea_; subst ec_; clear en_))
                          have ea_ := Option.some.inj (hx236_3.symm.trans hx238_3)
                          injection ea_ with ea_ en_ ec_
                          subst ea_
                          subst ec_
                          clear en_
                          have ea_ := Option.some.inj (hx236_4.symm.trans hx238_4)
                          injection ea_ with ea_ en_ ec_
                          subst ea_
                          subst ec_
                          clear en_
                          have ea_ := Option.some.inj (hx236_5.symm.trans hx238_5)
                          injection ea_ with ea_ en_ ec_
                          subst ea_
                          subst ec_
                          clear en_
                          refine start_ (n := 38) (S := fun w' => w'.cell? (ad235.add ((x13_2).toNat * 6)) = some (.int .i64 ((rd_T33 t223 x13_2).f0)) ∧ w'.cell? ⟨(ad235.add ((x13_2).toNat * 6)).block, (ad235.add ((x13_2).toNat * 6)).off + 1, none⟩ = some (.int .i64 ((rd_T33 t223 x13_2).f1)) ∧ w'.cell? ⟨(ad235.add ((x13_2).toNat * 6)).block, (ad235.add ((x13_2).toNat * 6)).off + 2, none⟩ = some (.int .i64 ((rd_T33 t223 x13_2).f2.f0)) ∧ w'.cell? ⟨(ad235.add ((x13_2).toNat * 6)).block, (ad235.add ((x13_2).toNat * 6)).off + 3, none⟩ = some (.slice A235_3 ((rd_T33 t223 x13_2).f2.f1).length c235_3) ∧ w'.cell? ⟨(ad235.add ((x13_2).toNat * 6)).block, (ad235.add ((x13_2).toNat * 6)).off + 4, none⟩ = some (.slice A235_4 ((rd_T33 t223 x13_2).f2.f2).length c235_4) ∧ w'.cell? ⟨(ad235.add ((x13_2).toNat * 6)).block, (ad235.add ((x13_2).toNat * 6)).off + 5, none⟩ = some (.slice A235_5 ((rd_T33 t223 x13_2).f2.f3).length c235_5) ∧ w'.cell? (ad236.add ((x13_2).toNat * 6)) = some (.int .i64 ((rd_T33 t226 x13_2).f0)) ∧ w'.cell? ⟨(ad236.add ((x13_2).toNat * 6)).block, (ad236.add ((x13_2).toNat * 6)).off + 1, none⟩ = some (.int .i64 ((rd_T33 t226 x13_2).f1)) ∧ w'.cell? ⟨(ad236.add ((x13_2).toNat * 6)).block, (ad236.add ((x13_2).toNat * 6)).off + 2, none⟩ = some (.int .i64 ((rd_T33 t226 x13_2).f2.f0)) ∧ w'.cell? ⟨(ad236.add ((x13_2).toNat * 6)).block, (ad236.add ((x13_2).toNat * 6)).off + 3, none⟩ = some (.slice A236_3 ((rd_T33 t226 x13_2).f2.f1).length c236_3) ∧ w'.cell? ⟨(ad236.add ((x13_2).toNat * 6)).block, (ad236.add ((x13_2).toNat * 6)).off + 4, none⟩ = some (.slice A236_4 ((rd_T33 t226 x13_2).f2.f2).length c236_4) ∧ w'.cell? ⟨(ad236.add ((x13_2).toNat * 6)).block, (ad236.add ((x13_2).toNat * 6)).off + 5, none⟩ = some (.slice A236_5 ((rd_T33 t226 x13_2).f2.f3).length c236_5) ∧ w'.cell? (ad235.add ((x13_2).toNat * 6)) = some (.int .i64 ((rd_T33 t223 x13_2).f0)) ∧ w'.cell? ⟨(ad235.add ((x13_2).toNat * 6)).block, (ad235.add ((x13_2).toNat * 6)).off + 1, none⟩ = some (.int .i64 ((rd_T33 t223 x13_2).f1)) ∧ w'.cell? ⟨(ad235.add ((x13_2).toNat * 6)).block, (ad235.add ((x13_2).toNat * 6)).off + 2, none⟩ = some (.int .i64 ((rd_T33 t223 x13_2).f2.f0)) ∧ w'.cell? ⟨(ad235.add ((x13_2).toNat * 6)).block, (ad235.add ((x13_2).toNat * 6)).off + 3, none⟩ = some (.slice A235_3 ((rd_T33 t223 x13_2).f2.f1).length c235_3) ∧ w'.cell? ⟨(ad235.add ((x13_2).toNat * 6)).block, (ad235.add ((x13_2).toNat * 6)).off + 4, none⟩ = some (.slice A235_4 ((rd_T33 t223 x13_2).f2.f2).length c235_4) ∧ w'.cell? ⟨(ad235.add ((x13_2).toNat * 6)).block, (ad235.add ((x13_2).toNat * 6)).off + 5, none⟩ = some (.slice A235_5 ((rd_T33 t223 x13_2).f2.f3).length c235_5) ∧ w'.cell? (ad236.add ((x13_2).toNat * 6)) = some (.int .i64 ((rd_T33 t226 x13_2).f0)) ∧ w'.cell? ⟨(ad236.add ((x13_2).toNat * 6)).block, (ad236.add ((x13_2).toNat * 6)).off + 1, none⟩ = some (.int .i64 ((rd_T33 t226 x13_2).f1)) ∧ w'.cell? ⟨(ad236.add ((x13_2).toNat * 6)).block, (ad236.add ((x13_2).toNat * 6)).off + 2, none⟩ = some (.int .i64 ((rd_T33 t226 x13_2).f2.f0)) ∧ w'.cell? ⟨(ad236.add ((x13_2).toNat * 6)).block, (ad236.add ((x13_2).toNat * 6)).off + 3, none⟩ = some (.slice A236_3 ((rd_T33 t226 x13_2).f2.f1).length c236_3) ∧ w'.cell? ⟨(ad236.add ((x13_2).toNat * 6)).block, (ad236.add ((x13_2).toNat * 6)).off + 4, none⟩ = some (.slice A236_4 ((rd_T33 t226 x13_2).f2.f2).length c236_4) ∧ w'.cell? ⟨(ad236.add ((x13_2).toNat * 6)).block, (ad236.add ((x13_2).toNat * 6)).off + 5, none⟩ = some (.slice A236_5 ((rd_T33 t226 x13_2).f2.f3).length c236_5)) (ds := []) #[false, false, false, false, false, false, false, false, false, false, false, false, false, false, false, false, false, false, false, false, false, false, false, false, false, false, false, false, false, false, false, false, false, false, false, false, false, false] (by kernel_rfl) rfl rfl ⟨hx235_0, hx235_1, hx235_2, hx235_3, hx235_4, hx235_5, hx236_0, hx236_1, hx236_2, hx236_3, hx236_4, hx236_5, hx237_0, hx237_1, hx237_2, hx237_3, hx237_4, hx237_5, hx238_0, hx238_1, hx238_2, hx238_3, hx238_4, hx238_5⟩ (fun hHeld => ?_); refine with_tabW logbooklaw17_ScanObjects.tab11 logbooklaw17_ScanObjects.bits11 (fun HT_ HW_ => ?_)
                          generalize wr.drew = w36 at HO_9 HO_10 HO_11 HB HL235_3 HL235_4 HL235_5 HL236_3 HL236_4 HL236_5 HL237_3 HL237_4 HL237_5 HL238_3 HL238_4 HL238_5 HR235_3 HR235_4 HR235_5 HR236_3 HR236_4 HR236_5 HR237_3 HR237_4 HR237_5 HR238_3 HR238_4 HR238_5 hx235_0 hx235_1 hx235_2 hx235_3 hx235_4 hx235_5 hx236_0 hx236_1 hx236_2 hx236_3 hx236_4 hx236_5 hx237_0 hx237_1 hx237_2 hx237_3 hx237_4 hx237_5 hx238_0 hx238_1 hx238_2 hx238_3 hx238_4 hx238_5 hHeld ⊢
                          refine pure_ (i := 0) (N := some 53) (v := ?_) (a' := ?_) #[true, false, false, false, false, false, false, false, false, false, false, false, false, false, false, false, false, false, false, false, false, false, false, false, false, false, false, false, false, false, false, false, false, false, false, false, false, false] rfl rfl (any_of HT_.out (by kernel_rfl)) (fun _ _ _ h => h) (Or.inl ⟨by rfl, ?_⟩) ?_ ?_
                          rotate_left
                          · intro w'
                            go_simp
                            with_reducible rfl
                          rotate_left
                          · simp only [Act.put, List.setIfInBounds_toArray, List.set_cons_zero, List.set_cons_succ, i64_w, i32_w]
                            rfl
                          refine pure_ (i := 1) (N := some 54) (v := ?_) (a' := ?_) #[true, true, false, false, false, false, false, false, false, false, false, false, false, false, false, false, false, false, false, false, false, false, false, false, false, false, false, false, false, false, false, false, false, false, false, false, false, false] rfl rfl (any_of HT_.out (by kernel_rfl)) (fun _ _ _ h => h) (Or.inl ⟨by rfl, ?_⟩) ?_ ?_
                          rotate_left
                          · intro w'
                            go_simp
                            with_reducible rfl
                          rotate_left
                          · simp only [Act.put, List.setIfInBounds_toArray, List.set_cons_zero, List.set_cons_succ, i64_w, i32_w]
                            rfl
                          refine pure_ (i := 2) (N := some 55) (v := ?_) (a' := ?_) #[true, true, true, false, false, false, false, false, false, false, false, false, false, false, false, false, false, false, false, false, false, false, false, false, false, false, false, false, false, false, false, false, false, false, false, false, false, false] rfl rfl (any_of HT_.out (by kernel_rfl)) (fun _ _ _ h => h) (Or.inl ⟨by rfl, ?_⟩) ?_ ?_
                          rotate_left
                          · intro w'
                            go_simp
                            with_reducible rfl
                          rotate_left
                          · simp only [Act.put, List.setIfInBounds_toArray, List.set_cons_zero, List.set_cons_succ, i64_w, i32_w]
                            rfl
                          refine pure_ (i := 3) (N := some 56) (v := ?_) (a' := ?_) #[true, true, true, true, false, false, false, false, false, false, false, false, false, false, false, false, false, false, false, false, false, false, false, false, false, false, false, false, false, false, false, false, false, false, false, false, false, false] rfl rfl (any_of HT_.out (by kernel_rfl)) (fun _ _ _ h => h) (Or.inl ⟨by rfl, ?_⟩) ?_ ?_
                          rotate_left
                          · intro w'
                            go_simp
                            with_reducible rfl
                          rotate_left
                          · simp only [Act.put, List.setIfInBounds_toArray, List.set_cons_zero, List.set_cons_succ, i64_w, i32_w]
                            rfl
                          refine pure_ (i := 5) (N := some 58) (v := ?_) (a' := ?_) #[true, true, true, true, false, true, false, false, false, false, false, false, false, false, false, false, false, false, false, false, false, false, false, false, false, false, false, false, false, false, false, false, false, false, false, false, false, false] rfl rfl (any_of HT_.out (by kernel_rfl)) (fun _ _ _ h => h) (Or.inl ⟨by rfl, ?_⟩) ?_ ?_
                          rotate_left
                          · intro w'
                            go_simp
                            with_reducible rfl
                          rotate_left
                          · simp only [Act.put, List.setIfInBounds_toArray, List.set_cons_zero, List.set_cons_succ, i64_w, i32_w]
                            rfl
                          refine pure_ (i := 6) (N := some 59) (v := ?_) (a' := ?_) #[true, true, true, true, false, true, true, false, false, false, false, false, false, false, false, false, false, false, false, false, false, false, false, false, false, false, false, false, false, false, false, false, false, false, false, false, false, false] rfl rfl (any_of HT_.out (by kernel_rfl)) (fun _ _ _ h => h) (Or.inl ⟨by rfl, ?_⟩) ?_ ?_
                          rotate_left
                          · intro w'
                            go_simp
                            with_reducible rfl
                          rotate_left
                          · simp only [Act.put, List.setIfInBounds_toArray, List.set_cons_zero, List.set_cons_succ, i64_w, i32_w]
                            rfl
                          refine pure_ (i := 7) (N := some 60) (v := ?_) (a' := ?_) #[true, true, true, true, false, true, true, true, false, false, false, false, false, false, false, false, false, false, false, false, false, false, false, false, false, false, false, false, false, false, false, false, false, false, false, false, false, false] rfl rfl (any_of HT_.out (by kernel_rfl)) (fun _ _ _ h => h) (Or.inl ⟨by rfl, ?_⟩) ?_ ?_
                          rotate_left
                          · intro w'
                            go_simp
                            with_reducible rfl
                          rotate_left
                          · simp only [Act.put, List.setIfInBounds_toArray, List.set_cons_zero, List.set_cons_succ, i64_w, i32_w]
                            rfl
                          refine pure_ (i := 8) (N := some 61) (v := ?_) (a' := ?_) #[true, true, true, true, false, true, true, true, true, false, false, false, false, false, false, false, false, false, false, false, false, false, false, false, false, false, false, false, false, false, false, false, false, false, false, false, false, false] rfl rfl (any_of HT_.out (by kernel_rfl)) (fun _ _ _ h => h) (Or.inl ⟨by rfl, ?_⟩) ?_ ?_
                          rotate_left
                          · intro w'
                            go_simp
                            with_reducible rfl
                          rotate_left
                          · simp only [Act.put, List.setIfInBounds_toArray, List.set_cons_zero, List.set_cons_succ, i64_w, i32_w]
                            rfl
                          refine take_ (i := 4) (N := some 57) (v := ?_) (a' := ?_) #[true, true, true, true, true, true, true, true, true, false, false, false, false, false, false, false, false, false, false, false, false, false, false, false, false, false, false, false, false, false, false, false, false, false, false, false, false, false] rfl rfl (take_ofW HT_.out HW_.out (by kernel_rfl)) (fun _ _ _ h => h) (Or.inl ⟨by rfl, ?_⟩) hHeld ?_ ?_
                          rotate_left
                          · rintro w' ⟨s0, s1, s2, s3, s4, s5, s6, s7, s8, s9, s10, s11, s12, s13, s14, s15, s16, s17, s18, s19, s20, s21, s22, s23⟩
                            go_simp
                            with_reducible rfl
                          rotate_left
                          · simp only [Act.put, List.setIfInBounds_toArray, List.set_cons_zero, List.set_cons_succ, i64_w, i32_w]
                            rfl
                          refine take_ (i := 9) (N := some 62) (v := ?_) (a' := ?_) #[true, true, true, true, true, true, true, true, true, true, false, false, false, false, false, false, false, false, false, false, false, false, false, false, false, false, false, false, false, false, false, false, false, false, false, false, false, false] rfl rfl (take_ofW HT_.out HW_.out (by kernel_rfl)) (fun _ _ _ h => h) (Or.inl ⟨by rfl, ?_⟩) hHeld ?_ ?_
                          rotate_left
                          · rintro w' ⟨s0, s1, s2, s3, s4, s5, s6, s7, s8, s9, s10, s11, s12, s13, s14, s15, s16, s17, s18, s19, s20, s21, s22, s23⟩
                            go_simp
                            with_reducible rfl
                          rotate_left
                          · simp only [Act.put, List.setIfInBounds_toArray, List.set_cons_zero, List.set_cons_succ, i64_w, i32_w]
                            rfl
                          refine pure_ (i := 10) (N := some 63) (v := ?_) (a' := ?_) #[true, true, true, true, true, true, true, true, true, true, true, false, false, false, false, false, false, false, false, false, false, false, false, false, false, false, false, false, false, false, false, false, false, false, false, false, false, false] rfl rfl (any_of HT_.out (by kernel_rfl)) (fun _ _ _ h => h) (Or.inl ⟨by rfl, ?_⟩) ?_ ?_
                          rotate_left
                          · intro w'
                            go_simp
                            with_reducible rfl
                          rotate_left
                          · simp only [Act.put, List.setIfInBounds_toArray, List.set_cons_zero, List.set_cons_succ, i64_w, i32_w]
                            rfl
                          refine pure_ (i := 11) (N := some 64) (v := ?_) (a' := ?_) #[true, true, true, true, true, true, true, true, true, true, true, true, false, false, false, false, false, false, false, false, false, false, false, false, false, false, false, false, false, false, false, false, false, false, false, false, false, false] rfl rfl (any_of HT_.out (by kernel_rfl)) (fun _ _ _ h => h) (Or.inl ⟨by rfl, ?_⟩) ?_ ?_
                          rotate_left
                          · intro w'
                            go_simp
                            with_reducible rfl
                          rotate_left
                          · simp only [Act.put, List.setIfInBounds_toArray, List.set_cons_zero, List.set_cons_succ, i64_w, i32_w]
                            rfl
                          refine pure_ (i := 12) (N := some 65) (v := ?_) (a' := ?_) #[true, true, true, true, true, true, true, true, true, true, true, true, true, false, false, false, false, false, false, false, false, false, false, false, false, false, false, false, false, false, false, false, false, false, false, false, false, false] rfl rfl (any_of HT_.out (by kernel_rfl)) (fun _ _ _ h => h) (Or.inl ⟨by rfl, ?_⟩) ?_ ?_
                          rotate_left
                          · intro w'
                            go_simp
                            with_reducible rfl
                          rotate_left
                          · simp only [Act.put, List.setIfInBounds_toArray, List.set_cons_zero, List.set_cons_succ, i64_w, i32_w]
                            rfl
                          refine pure_ (i := 13) (N := some 66) (v := ?_) (a' := ?_) #[true, true, true, true, true, true, true, true, true, true, true, true, true, true, false, false, false, false, false, false, false, false, false, false, false, false, false, false, false, false, false, false, false, false, false, false, false, false] rfl rfl (any_of HT_.out (by kernel_rfl)) (fun _ _ _ h => h) (Or.inl ⟨by rfl, ?_⟩) ?_ ?_
                          rotate_left
                          · intro w'
                            go_simp
                            with_reducible rfl
                          rotate_left
                          · simp only [Act.put, List.setIfInBounds_toArray, List.set_cons_zero, List.set_cons_succ, i64_w, i32_w]
                            rfl
                          refine pure_ (i := 14) (N := some 67) (v := ?_) (a' := ?_) #[true, true, true, true, true, true, true, true, true, true, true, true, true, true, true, false, false, false, false, false, false, false, false, false, false, false, false, false, false, false, false, false, false, false, false, false, false, false] rfl rfl (any_of HT_.out (by kernel_rfl)) (fun _ _ _ h => h) (Or.inl ⟨by rfl, ?_⟩) ?_ ?_
                          rotate_left
                          · intro w'
                            go_simp
                            with_reducible rfl
                          rotate_left
                          · simp only [Act.put, List.setIfInBounds_toArray, List.set_cons_zero, List.set_cons_succ, i64_w, i32_w]
                            rfl
                          refine pure_ (i := 15) (N := some 68) (v := ?_) (a' := ?_) #[true, true, true, true, true, true, true, true, true, true, true, true, true, true, true, true, false, false, false, false, false, false, false, false, false, false, false, false, false, false, false, false, false, false, false, false, false, false] rfl rfl (any_of HT_.out (by kernel_rfl)) (fun _ _ _ h => h) (Or.inl ⟨by rfl, ?_⟩) ?_ ?_
                          rotate_left
                          · intro w'
                            go_simp
                            with_reducible rfl
                          rotate_left
                          · simp only [Act.put, List.setIfInBounds_toArray, List.set_cons_zero, List.set_cons_succ, i64_w, i32_w]
                            rfl
                          refine pure_ (i := 17) (N := some 70) (v := ?_) (a' := ?_) #[true, true, true, true, true, true, true, true, true, true, true, true, true, true, true, true, false, true, false, false, false, false, false, false, false, false, false, false, false, false, false, false, false, false, false, false, false, false] rfl rfl (any_of HT_.out (by kernel_rfl)) (fun _ _ _ h => h) (Or.inl ⟨by rfl, ?_⟩) ?_ ?_
                          rotate_left
                          · intro w'
                            go_simp
                            with_reducible rfl
                          rotate_left
                          · simp only [Act.put, List.setIfInBounds_toArray, List.set_cons_zero, List.set_cons_succ, i64_w, i32_w]
                            rfl
                          refine pure_ (i := 18) (N := some 71) (v := ?_) (a' := ?_) #[true, true, true, true, true, true, true, true, true, true, true, true, true, true, true, true, false, true, true, false, false, false, false, false, false, false, false, false, false, false, false, false, false, false, false, false, false, false] rfl rfl (any_of HT_.out (by kernel_rfl)) (fun _ _ _ h => h) (Or.inl ⟨by rfl, ?_⟩) ?_ ?_
                          rotate_left
                          · intro w'
                            go_simp
                            with_reducible rfl
                          rotate_left
                          · simp only [Act.put, List.setIfInBounds_toArray, List.set_cons_zero, List.set_cons_succ, i64_w, i32_w]
                            rfl
                          refine pure_ (i := 19) (N := some 72) (v := ?_) (a' := ?_) #[true, true, true, true, true, true, true, true, true, true, true, true, true, true, true, true, false, true, true, true, false, false, false, false, false, false, false, false, false, false, false, false, false, false, false, false, false, false] rfl rfl (any_of HT_.out (by kernel_rfl)) (fun _ _ _ h => h) (Or.inl ⟨by rfl, ?_⟩) ?_ ?_
                          rotate_left
                          · intro w'
                            go_simp
                            with_reducible rfl
                          rotate_left
                          · simp only [Act.put, List.setIfInBounds_toArray, List.set_cons_zero, List.set_cons_succ, i64_w, i32_w]
                            rfl
                          refine pure_ (i := 20) (N := some 73) (v := ?_) (a' := ?_) #[true, true, true, true, true, true, true, true, true, true, true, true, true, true, true, true, false, true, true, true, true, false, false, false, false, false, false, false, false, false, false, false, false, false, false, false, false, false] rfl rfl (any_of HT_.out (by kernel_rfl)) (fun _ _ _ h => h) (Or.inl ⟨by rfl, ?_⟩) ?_ ?_
                          rotate_left
                          · intro w'
                            go_simp
                            with_reducible rfl
                          rotate_left
                          · simp only [Act.put, List.setIfInBounds_toArray, List.set_cons_zero, List.set_cons_succ, i64_w, i32_w]
                            rfl
                          refine take_ (i := 16) (N := some 69) (v := ?_) (a' := ?_) #[true, true, true, true, true, true, true, true, true, true, true, true, true, true, true, true, true, true, true, true, true, false, false, false, false, false, false, false, false, false, false, false, false, false, false, false, false, false] rfl rfl (take_ofW HT_.out HW_.out (by kernel_rfl)) (fun _ _ _ h => h) (Or.inl ⟨by rfl, ?_⟩) hHeld ?_ ?_
                          rotate_left
                          · rintro w' ⟨s0, s1, s2, s3, s4, s5, s6, s7, s8, s9, s10, s11, s12, s13, s14, s15, s16, s17, s18, s19, s20, s21, s22, s23⟩
                            go_simp
                            with_reducible rfl
                          rotate_left
                          · simp only [Act.put, List.setIfInBounds_toArray, List.set_cons_zero, List.set_cons_succ, i64_w, i32_w]
                            rfl
                          refine take_ (i := 21) (N := some 74) (v := ?_) (a' := ?_) #[true, true, true, true, true, true, true, true, true, true, true, true, true, true, true, true, true, true, true, true, true, true, false, false, false, false, false, false, false, false, false, false, false, false, false, false, false, false] rfl rfl (take_ofW HT_.out HW_.out (by kernel_rfl)) (fun _ _ _ h => h) (Or.inl ⟨by rfl, ?_⟩) hHeld ?_ ?_
                          rotate_left
                          · rintro w' ⟨s0, s1, s2, s3, s4, s5, s6, s7, s8, s9, s10, s11, s12, s13, s14, s15, s16, s17, s18, s19, s20, s21, s22, s23⟩
                            go_simp
                            with_reducible rfl
                          rotate_left
                          · simp only [Act.put, List.setIfInBounds_toArray, List.set_cons_zero, List.set_cons_succ, i64_w, i32_w]
                            rfl
                          refine pure_ (i := 22) (N := some 75) (v := ?_) (a' := ?_) #[true, true, true, true, true, true, true, true, true, true, true, true, true, true, true, true, true, true, true, true, true, true, true, false, false, false, false, false, false, false, false, false, false, false, false, false, false, false] rfl rfl (any_of HT_.out (by kernel_rfl)) (fun _ _ _ h => h) (Or.inl ⟨by rfl, ?_⟩) ?_ ?_
                          rotate_left
                          · intro w'
                            go_simp
                            with_reducible rfl
                          rotate_left
                          · simp only [Act.put, List.setIfInBounds_toArray, List.set_cons_zero, List.set_cons_succ, i64_w, i32_w]
                            rfl
                          refine pure_ (i := 23) (N := some 76) (v := ?_) (a' := ?_) #[true, true, true, true, true, true, true, true, true, true, true, true, true, true, true, true, true, true, true, true, true, true, true, true, false, false, false, false, false, false, false, false, false, false, false, false, false, false] rfl rfl (any_of HT_.out (by kernel_rfl)) (fun _ _ _ h => h) (Or.inl ⟨by rfl, ?_⟩) ?_ ?_
                          rotate_left
                          · intro w'
                            go_simp
                            with_reducible rfl
                          rotate_left
                          · simp only [Act.put, List.setIfInBounds_toArray, List.set_cons_zero, List.set_cons_succ, i64_w, i32_w]
                            rfl
                          refine pure_ (i := 24) (N := some 77) (v := ?_) (a' := ?_) #[true, true, true, true, true, true, true, true, true, true, true, true, true, true, true, true, true, true, true, true, true, true, true, true, true, false, false, false, false, false, false, false, false, false, false, false, false, false] rfl rfl (any_of HT_.out (by kernel_rfl)) (fun _ _ _ h => h) (Or.inl ⟨by rfl, ?_⟩) ?_ ?_
                          rotate_left
                          · intro w'
                            go_simp
                            with_reducible rfl
                          rotate_left
                          · simp only [Act.put, List.setIfInBounds_toArray, List.set_cons_zero, List.set_cons_succ, i64_w, i32_w]
                            rfl
                          refine pure_ (i := 25) (N := some 78) (v := undef) (a' := ?_) #[true, true, true, true, true, true, true, true, true, true, true, true, true, true, true, true, true, true, true, true, true, true, true, true, true, true, false, false, false, false, false, false, false, false, false, false, false, false] rfl rfl (any_of HT_.out (by kernel_rfl)) (fun _ _ _ h => h) (Or.inr ⟨by rfl, rfl⟩) ?_ ?_
                          rotate_left
                          · simp only [Act.put, List.setIfInBounds_toArray, List.set_cons_zero, List.set_cons_succ, i64_w, i32_w]
                            rfl
                          refine pure_ (i := 26) (N := some 79) (v := undef) (a' := ?_) #[true, true, true, true, true, true, true, true, true, true, true, true, true, true, true, true, true, true, true, true, true, true, true, true, true, true, true, false, false, false, false, false, false, false, false, false, false, false] rfl rfl (any_of HT_.out (by kernel_rfl)) (fun _ _ _ h => h) (Or.inr ⟨by rfl, rfl⟩) ?_ ?_
                          rotate_left
                          · simp only [Act.put, List.setIfInBounds_toArray, List.set_cons_zero, List.set_cons_succ, i64_w, i32_w]
                            rfl
                          refine pure_ (i := 27) (N := some 80) (v := undef) (a' := ?_) #[true, true, true, true, true, true, true, true, true, true, true, true, true, true, true, true, true, true, true, true, true, true, true, true, true, true, true, true, false, false, false, false, false, false, false, false, false, false] rfl rfl (any_of HT_.out (by kernel_rfl)) (fun _ _ _ h => h) (Or.inr ⟨by rfl, rfl⟩) ?_ ?_
                          rotate_left
                          · simp only [Act.put, List.setIfInBounds_toArray, List.set_cons_zero, List.set_cons_succ, i64_w, i32_w]
                            rfl
                          refine pure_ (i := 28) (N := some 81) (v := undef) (a' := ?_) #[true, true, true, true, true, true, true, true, true, true, true, true, true, true, true, true, true, true, true, true, true, true, true, true, true, true, true, true, true, false, false, false, false, false, false, false, false, false] rfl rfl (any_of HT_.out (by kernel_rfl)) (fun _ _ _ h => h) (Or.inr ⟨by rfl, rfl⟩) ?_ ?_
                          rotate_left
                          · simp only [Act.put, List.setIfInBounds_toArray, List.set_cons_zero, List.set_cons_succ, i64_w, i32_w]
                            rfl
                          refine pure_ (i := 29) (N := some 82) (v := undef) (a' := ?_) #[true, true, true, true, true, true, true, true, true, true, true, true, true, true, true, true, true, true, true, true, true, true, true, true, true, true, true, true, true, true, false, false, false, false, false, false, false, false] rfl rfl (any_of HT_.out (by kernel_rfl)) (fun _ _ _ h => h) (Or.inr ⟨by rfl, rfl⟩) ?_ ?_
                          rotate_left
                          · simp only [Act.put, List.setIfInBounds_toArray, List.set_cons_zero, List.set_cons_succ, i64_w, i32_w]
                            rfl
                          refine pure_ (i := 30) (N := some 83) (v := undef) (a' := ?_) #[true, true, true, true, true, true, true, true, true, true, true, true, true, true, true, true, true, true, true, true, true, true, true, true, true, true, true, true, true, true, true, false, false, false, false, false, false, false] rfl rfl (any_of HT_.out (by kernel_rfl)) (fun _ _ _ h => h) (Or.inr ⟨by rfl, rfl⟩) ?_ ?_
                          rotate_left
                          · simp only [Act.put, List.setIfInBounds_toArray, List.set_cons_zero, List.set_cons_succ, i64_w, i32_w]
                            rfl
                          refine pure_ (i := 31) (N := some 84) (v := undef) (a' := ?_) #[true, true, true, true, true, true, true, true, true, true, true, true, true, true, true, true, true, true, true, true, true, true, true, true, true, true, true, true, true, true, true, true, false, false, false, false, false, false] rfl rfl (any_of HT_.out (by kernel_rfl)) (fun _ _ _ h => h) (Or.inr ⟨by rfl, rfl⟩) ?_ ?_
                          rotate_left
                          · simp only [Act.put, List.setIfInBounds_toArray, List.set_cons_zero, List.set_cons_succ, i64_w, i32_w]
                            rfl
                          refine pure_ (i := 32) (N := some 85) (v := undef) (a' := ?_) #[true, true, true, true, true, true, true, true, true, true, true, true, true, true, true, true, true, true, true, true, true, true, true, true, true, true, true, true, true, true, true, true, true, false, false, false, false, false] rfl rfl (any_of HT_.out (by kernel_rfl)) (fun _ _ _ h => h) (Or.inr ⟨by rfl, rfl⟩) ?_ ?_
                          rotate_left
                          · simp only [Act.put, List.setIfInBounds_toArray, List.set_cons_zero, List.set_cons_succ, i64_w, i32_w]
                            rfl
                          refine pure_ (i := 33) (N := some 86) (v := undef) (a' := ?_) #[true, true, true, true, true, true, true, true, true, true, true, true, true, true, true, true, true, true, true, true, true, true, true, true, true, true, true, true, true, true, true, true, true, true, false, false, false, false] rfl rfl (any_of HT_.out (by kernel_rfl)) (fun _ _ _ h => h) (Or.inr ⟨by rfl, rfl⟩) ?_ ?_
                          rotate_left
                          · simp only [Act.put, List.setIfInBounds_toArray, List.set_cons_zero, List.set_cons_succ, i64_w, i32_w]
                            rfl
                          refine pure_ (i := 34) (N := some 87) (v := undef) (a' := ?_) #[true, true, true, true, true, true, true, true, true, true, true, true, true, true, true, true, true, true, true, true, true, true, true, true, true, true, true, true, true, true, true, true, true, true, true, false, false, false] rfl rfl (any_of HT_.out (by kernel_rfl)) (fun _ _ _ h => h) (Or.inr ⟨by rfl, rfl⟩) ?_ ?_
                          rotate_left
                          · simp only [Act.put, List.setIfInBounds_toArray, List.set_cons_zero, List.set_cons_succ, i64_w, i32_w]
                            rfl
                          refine pure_ (i := 35) (N := some 88) (v := undef) (a' := ?_) #[true, true, true, true, true, true, true, true, true, true, true, true, true, true, true, true, true, true, true, true, true, true, true, true, true, true, true, true, true, true, true, true, true, true, true, true, false, false] rfl rfl (any_of HT_.out (by kernel_rfl)) (fun _ _ _ h => h) (Or.inr ⟨by rfl, rfl⟩) ?_ ?_
                          rotate_left
                          · simp only [Act.put, List.setIfInBounds_toArray, List.set_cons_zero, List.set_cons_succ, i64_w, i32_w]
                            rfl
                          refine pure_ (i := 36) (N := some 89) (v := undef) (a' := ?_) #[true, true, true, true, true, true, true, true, true, true, true, true, true, true, true, true, true, true, true, true, true, true, true, true, true, true, true, true, true, true, true, true, true, true, true, true, true, false] rfl rfl (any_of HT_.out (by kernel_rfl)) (fun _ _ _ h => h) (Or.inr ⟨by rfl, rfl⟩) ?_ ?_
                          rotate_left
                          · simp only [Act.put, List.setIfInBounds_toArray, List.set_cons_zero, List.set_cons_succ, i64_w, i32_w]
                            rfl
                          refine pure_ (i := 37) (N := some 90) (v := ?_) (a' := ?_) #[true, true, true, true, true, true, true, true, true, true, true, true, true, true, true, true, true, true, true, true, true, true, true, true, true, true, true, true, true, true, true, true, true, true, true, true, true, true] rfl rfl (any_of HT_.out (by kernel_rfl)) (fun _ _ _ h => h) (Or.inl ⟨by rfl, ?_⟩) ?_ ?_
                          rotate_left
                          · intro w'
                            go_simp
                            with_reducible rfl
                          rotate_left
                          · simp only [Act.put, List.setIfInBounds_toArray, List.set_cons_zero, List.set_cons_succ, i64_w, i32_w]
                            rfl
                          refine done_ (done_of HT_.out (by kernel_rfl)) ?_
                          try go_wp2
                          go_meet
                          case rel => exact ⟨_, (true), (by first | rfl | (simp; done) | (simp [*]; done) | exact isEmpty_bne _), H', ⟨by have := HJ9.out; have := HK2.out; first | omega | exact Nat.le_refl _⟩, ⟨by (with_reducible repeat (first | apply Kd.S_alloc | apply Kd.S_drewN | apply Kd.S_drew)); exact HO_9.out⟩, ⟨by (with_reducible repeat (first | apply Kd.S_alloc | apply Kd.S_drewN | apply Kd.S_drew)); exact HO_10.out⟩, ⟨by (with_reducible repeat (first | apply Kd.R_alloc | apply Kd.R_drewN | apply Kd.R_drew)); exact HO_11.out⟩, ⟨by repeat (first | (with_reducible first | exact HB.out | apply below_alloc | apply pw_below_drewN | apply below_drew1) | exact HB.out)⟩⟩
                      · rw [if_neg c30] at H
                        have c30b0 : (((rd_T33 t223 x13_2).f0) == ((rd_T33 t226 x13_2).f0)) = false := beq_eq_false_iff_ne.mpr c30
                        have c30b1 : (((rd_T33 t223 x13_2).f0) != ((rd_T33 t226 x13_2).f0)) = true := bne_iff_ne.mpr c30
                        have H' := Aside0.mk H
                        clear H
                        try go_wp2
                        have n0_ := Aside0.mk (Kd.S_drew HO_9.out)
                        have n1_ := Aside0.mk (Kd.S_drew HO_10.out)
                        have n2_ := Aside0.mk (Kd.R_drew HO_11.out)
                        have n3_ := Aside0.mk (below_drew1 HB.out)
                        clear HO_9
                        clear HO_10
                        clear HO_11
                        clear HB
                        have HO_9 := n0_
                        have HO_10 := n1_
                        have HO_11 := n2_
                        have HB := n3_
                        clear n0_ n1_ n2_ n3_
                        have p235 : 0 ≤ (x13_2 : Int) := of_decide_eq_true (by first | (with_reducible assumption) | assumption)
                        have q235 : x13_2 < (t223.length : Int) := of_decide_eq_true (by first | (with_reducible assumption) | assumption)
                        try (obtain ⟨Az_, cz_, ez_⟩ := Kd.S_slice HO_9.out; subst ez_)
                        obtain ⟨ad235, A235_3, c235_3, A235_4, c235_4, A235_5, c235_5, e235, hx235_0, hx235_1, hx235_2, hx235_3, hx235_4, hx235_5, hl235_3, hi235_3, hl235_4, hi235_4, hl235_5, hi235_5⟩ := at_T33 (Kd.S_reads' HO_9.out).2.2 x13_2 p235 q235
                        cases e235
                        obtain ⟨ce235, hce235, hMe235, hcc235⟩ := Kd.S_get HO_9.out z33 x13_2 p235 (by first | exact q235 | exact of_decide_eq_true (by first | (with_reducible assumption) | assumption) | (have e_ := (Kd.S_reads' HO_9.out).1; omega))
                        obtain ⟨ve235_3, ve235_4, ve235_5, rfl, ge235_3, ge235_4, ge235_5⟩ := k33_openM hMe235
                        have hv235_3 := hcc235 3 _ rfl
                        rw [add_field _ _ 3 (by omega)] at hv235_3
                        replace hv235_3 := Option.some.inj (hv235_3.symm.trans hx235_3)
                        rw [hv235_3] at ge235_3
                        have HL235_3 := Aside0.mk (show Kd.R (Kd.int .u64) 47 _ _ _ _ ((rd_T33 t223 x13_2).f2.f1) from ge235_3)
                        clear hv235_3 ge235_3
                        have hv235_4 := hcc235 4 _ rfl
                        rw [add_field _ _ 4 (by omega)] at hv235_4
                        replace hv235_4 := Option.some.inj (hv235_4.symm.trans hx235_4)
                        rw [hv235_4] at ge235_4
                        have HL235_4 := Aside0.mk (show Kd.R (Kd.int .u8) 5 _ _ _ _ ((rd_T33 t223 x13_2).f2.f2) from ge235_4)
                        clear hv235_4 ge235_4
                        have hv235_5 := hcc235 5 _ rfl
                        rw [add_field _ _ 5 (by omega)] at hv235_5
                        replace hv235_5 := Option.some.inj (hv235_5.symm.trans hx235_5)
                        rw [hv235_5] at ge235_5
                        have HL235_5 := Aside0.mk (show Kd.R (Kd.int .u64) 47 _ _ _ _ ((rd_T33 t223 x13_2).f2.f3) from ge235_5)
                        clear hv235_5 ge235_5
                        clear hcc235 hce235
                        have HR235_3 := Aside0.mk hi235_3
                        have HC235_3 := Aside0.mk hl235_3
                        clear hi235_3 hl235_3
                        have HR235_4 := Aside0.mk hi235_4
                        have HC235_4 := Aside0.mk hl235_4
                        clear hi235_4 hl235_4
                        have HR235_5 := Aside0.mk hi235_5
                        have HC235_5 := Aside0.mk hl235_5
                        clear hi235_5 hl235_5
                        replace p235 := eq_true p235
                        replace q235 := eq_true q235
                        (try (have ea_ := Option.some.inj (HS3_.symm.trans hx235_3); injection ea_ with ea_ en_ ec_; subst ea_; subst ec_; clear en_))
                        (try (have ea_ := Option.some.inj (HS4_.symm.trans hx235_4); injection ea_ with ea_ en_ ec_; subst ea_; subst ec_; clear en_))
                        (try (have ea_ := Option.some.inj (HS5_.symm.trans hx235_5); injection ea_ with ea_ en_ ec_; subst ea_; subst ec_; clear en_))
                        obtain ⟨Ao39, co39, eo39⟩ := Kd.S_slice HO_10.out
                        (first | subst eo39 | (injection eo39 with f1_ f2_ f3_; have f4_ := f1_.symm; have f5_ := f3_.symm; clear f1_ f2_ f3_; subst f4_; subst f5_))
                        have p236 : 0 ≤ (x13_2 : Int) := of_decide_eq_true (by first | (with_reducible assumption) | assumption)
                        have q236 : x13_2 < (t226.length : Int) := of_decide_eq_true (by first | (with_reducible assumption) | assumption)
                        try (obtain ⟨Az_, cz_, ez_⟩ := Kd.S_slice HO_10.out; subst ez_)
                        obtain ⟨ad236, A236_3, c236_3, A236_4, c236_4, A236_5, c236_5, e236, hx236_0, hx236_1, hx236_2, hx236_3, hx236_4, hx236_5, hl236_3, hi236_3, hl236_4, hi236_4, hl236_5, hi236_5⟩ := at_T33 (Kd.S_reads' HO_10.out).2.2 x13_2 p236 q236
                        cases e236
                        obtain ⟨ce236, hce236, hMe236, hcc236⟩ := Kd.S_get HO_10.out z33 x13_2 p236 (by first | exact q236 | exact of_decide_eq_true (by first | (with_reducible assumption) | assumption) | (have e_ := (Kd.S_reads' HO_10.out).1; omega))
                        obtain ⟨ve236_3, ve236_4, ve236_5, rfl, ge236_3, ge236_4, ge236_5⟩ := k33_openM hMe236
                        have hv236_3 := hcc236 3 _ rfl
                        rw [add_field _ _ 3 (by omega)] at hv236_3
                        replace hv236_3 := Option.some.inj (hv236_3.symm.trans hx236_3)
                        rw [hv236_3] at ge236_3
                        have HL236_3 := Aside0.mk (show Kd.R (Kd.int .u64) 47 _ _ _ _ ((rd_T33 t226 x13_2).f2.f1) from ge236_3)
                        clear hv236_3 ge236_3
                        have hv236_4 := hcc236 4 _ rfl
                        rw [add_field _ _ 4 (by omega)] at hv236_4
                        replace hv236_4 := Option.some.inj (hv236_4.symm.trans hx236_4)
                        rw [hv236_4] at ge236_4
                        have HL236_4 := Aside0.mk (show Kd.R (Kd.int .u8) 5 _ _ _ _ ((rd_T33 t226 x13_2).f2.f2) from ge236_4)
                        clear hv236_4 ge236_4
                        have hv236_5 := hcc236 5 _ rfl
                        rw [add_field _ _ 5 (by omega)] at hv236_5
                        replace hv236_5 := Option.some.inj (hv236_5.symm.trans hx236_5)
                        rw [hv236_5] at ge236_5
                        have HL236_5 := Aside0.mk (show Kd.R (Kd.int .u64) 47 _ _ _ _ ((rd_T33 t226 x13_2).f2.f3) from ge236_5)
                        clear hv236_5 ge236_5
                        clear hcc236 hce236
                        have HR236_3 := Aside0.mk hi236_3
                        have HC236_3 := Aside0.mk hl236_3
                        clear hi236_3 hl236_3
                        have HR236_4 := Aside0.mk hi236_4
                        have HC236_4 := Aside0.mk hl236_4
                        clear hi236_4 hl236_4
                        have HR236_5 := Aside0.mk hi236_5
                        have HC236_5 := Aside0.mk hl236_5
                        clear hi236_5 hl236_5
                        replace p236 := eq_true p236
                        replace q236 := eq_true q236
                        (try (have ea_ := Option.some.inj (HS3_.symm.trans hx236_3); injection ea_ with ea_ en_ ec_; subst ea_; subst ec_; clear en_))
                        (try (have ea_ := Option.some.inj (HS4_.symm.trans hx236_4); injection ea_ with ea_ en_ ec_; subst ea_; subst ec_; clear en_))
                        (try (have ea_ := Option.some.inj (HS5_.symm.trans hx236_5); injection ea_ with ea_ en_ ec_; subst ea_; subst ec_; clear en_))
                        refine start_ (n := 38) (S := fun w' => w'.cell? (ad235.add ((x13_2).toNat * 6)) = some (.int .i64 ((rd_T33 t223 x13_2).f0)) ∧ w'.cell? ⟨(ad235.add ((x13_2).toNat * 6)).block, (ad235.add ((x13_2).toNat * 6)).off + 1, none⟩ = some (.int .i64 ((rd_T33 t223 x13_2).f1)) ∧ w'.cell? ⟨(ad235.add ((x13_2).toNat * 6)).block, (ad235.add ((x13_2).toNat * 6)).off + 2, none⟩ = some (.int .i64 ((rd_T33 t223 x13_2).f2.f0)) ∧ w'.cell? ⟨(ad235.add ((x13_2).toNat * 6)).block, (ad235.add ((x13_2).toNat * 6)).off + 3, none⟩ = some (.slice A235_3 ((rd_T33 t223 x13_2).f2.f1).length c235_3) ∧ w'.cell? ⟨(ad235.add ((x13_2).toNat * 6)).block, (ad235.add ((x13_2).toNat * 6)).off + 4, none⟩ = some (.slice A235_4 ((rd_T33 t223 x13_2).f2.f2).length c235_4) ∧ w'.cell? ⟨(ad235.add ((x13_2).toNat * 6)).block, (ad235.add ((x13_2).toNat * 6)).off + 5, none⟩ = some (.slice A235_5 ((rd_T33 t223 x13_2).f2.f3).length c235_5) ∧ w'.cell? (ad236.add ((x13_2).toNat * 6)) = some (.int .i64 ((rd_T33 t226 x13_2).f0)) ∧ w'.cell? ⟨(ad236.add ((x13_2).toNat * 6)).block, (ad236.add ((x13_2).toNat * 6)).off + 1, none⟩ = some (.int .i64 ((rd_T33 t226 x13_2).f1)) ∧ w'.cell? ⟨(ad236.add ((x13_2).toNat * 6)).block, (ad236.add ((x13_2).toNat * 6)).off + 2, none⟩ = some (.int .i64 ((rd_T33 t226 x13_2).f2.f0)) ∧ w'.cell? ⟨(ad236.add ((x13_2).toNat * 6)).block, (ad236.add ((x13_2).toNat * 6)).off + 3, none⟩ = some (.slice A236_3 ((rd_T33 t226 x13_2).f2.f1).length c236_3) ∧ w'.cell? ⟨(ad236.add ((x13_2).toNat * 6)).block, (ad236.add ((x13_2).toNat * 6)).off + 4, none⟩ = some (.slice A236_4 ((rd_T33 t226 x13_2).f2.f2).length c236_4) ∧ w'.cell? ⟨(ad236.add ((x13_2).toNat * 6)).block, (ad236.add ((x13_2).toNat * 6)).off + 5, none⟩ = some (.slice A236_5 ((rd_T33 t226 x13_2).f2.f3).length c236_5)) (ds := []) #[false, false, false, false, false, false, false, false, false, false, false, false, false, false, false, false, false, false, false, false, false, false, false, false, false, false, false, false, false, false, false, false, false, false, false, false, false, false] (by kernel_rfl) rfl rfl ⟨hx235_0, hx235_1, hx235_2, hx235_3, hx235_4, hx235_5, hx236_0, hx236_1, hx236_2, hx236_3, hx236_4, hx236_5⟩ (fun hHeld => ?_); refine with_tabW logbooklaw17_ScanObjects.tab11 logbooklaw17_ScanObjects.bits11 (fun HT_ HW_ => ?_)
                        generalize wr.drew = w38 at HO_9 HO_10 HO_11 HB HL235_3 HL235_4 HL235_5 HL236_3 HL236_4 HL236_5 HR235_3 HR235_4 HR235_5 HR236_3 HR236_4 HR236_5 hx235_0 hx235_1 hx235_2 hx235_3 hx235_4 hx235_5 hx236_0 hx236_1 hx236_2 hx236_3 hx236_4 hx236_5 hHeld ⊢
                        refine pure_ (i := 0) (N := some 53) (v := ?_) (a' := ?_) #[true, false, false, false, false, false, false, false, false, false, false, false, false, false, false, false, false, false, false, false, false, false, false, false, false, false, false, false, false, false, false, false, false, false, false, false, false, false] rfl rfl (any_of HT_.out (by kernel_rfl)) (fun _ _ _ h => h) (Or.inl ⟨by rfl, ?_⟩) ?_ ?_
                        rotate_left
                        · intro w'
                          go_simp
                          with_reducible rfl
                        rotate_left
                        · simp only [Act.put, List.setIfInBounds_toArray, List.set_cons_zero, List.set_cons_succ, i64_w, i32_w]
                          rfl
                        refine pure_ (i := 1) (N := some 54) (v := ?_) (a' := ?_) #[true, true, false, false, false, false, false, false, false, false, false, false, false, false, false, false, false, false, false, false, false, false, false, false, false, false, false, false, false, false, false, false, false, false, false, false, false, false] rfl rfl (any_of HT_.out (by kernel_rfl)) (fun _ _ _ h => h) (Or.inl ⟨by rfl, ?_⟩) ?_ ?_
                        rotate_left
                        · intro w'
                          go_simp
                          with_reducible rfl
                        rotate_left
                        · simp only [Act.put, List.setIfInBounds_toArray, List.set_cons_zero, List.set_cons_succ, i64_w, i32_w]
                          rfl
                        refine pure_ (i := 2) (N := some 55) (v := ?_) (a' := ?_) #[true, true, true, false, false, false, false, false, false, false, false, false, false, false, false, false, false, false, false, false, false, false, false, false, false, false, false, false, false, false, false, false, false, false, false, false, false, false] rfl rfl (any_of HT_.out (by kernel_rfl)) (fun _ _ _ h => h) (Or.inl ⟨by rfl, ?_⟩) ?_ ?_
                        rotate_left
                        · intro w'
                          go_simp
                          with_reducible rfl
                        rotate_left
                        · simp only [Act.put, List.setIfInBounds_toArray, List.set_cons_zero, List.set_cons_succ, i64_w, i32_w]
                          rfl
                        refine pure_ (i := 3) (N := some 56) (v := ?_) (a' := ?_) #[true, true, true, true, false, false, false, false, false, false, false, false, false, false, false, false, false, false, false, false, false, false, false, false, false, false, false, false, false, false, false, false, false, false, false, false, false, false] rfl rfl (any_of HT_.out (by kernel_rfl)) (fun _ _ _ h => h) (Or.inl ⟨by rfl, ?_⟩) ?_ ?_
                        rotate_left
                        · intro w'
                          go_simp
                          with_reducible rfl
                        rotate_left
                        · simp only [Act.put, List.setIfInBounds_toArray, List.set_cons_zero, List.set_cons_succ, i64_w, i32_w]
                          rfl
                        refine pure_ (i := 5) (N := some 58) (v := ?_) (a' := ?_) #[true, true, true, true, false, true, false, false, false, false, false, false, false, false, false, false, false, false, false, false, false, false, false, false, false, false, false, false, false, false, false, false, false, false, false, false, false, false] rfl rfl (any_of HT_.out (by kernel_rfl)) (fun _ _ _ h => h) (Or.inl ⟨by rfl, ?_⟩) ?_ ?_
                        rotate_left
                        · intro w'
                          go_simp
                          with_reducible rfl
                        rotate_left
                        · simp only [Act.put, List.setIfInBounds_toArray, List.set_cons_zero, List.set_cons_succ, i64_w, i32_w]
                          rfl
                        refine pure_ (i := 6) (N := some 59) (v := ?_) (a' := ?_) #[true, true, true, true, false, true, true, false, false, false, false, false, false, false, false, false, false, false, false, false, false, false, false, false, false, false, false, false, false, false, false, false, false, false, false, false, false, false] rfl rfl (any_of HT_.out (by kernel_rfl)) (fun _ _ _ h => h) (Or.inl ⟨by rfl, ?_⟩) ?_ ?_
                        rotate_left
                        · intro w'
                          go_simp
                          with_reducible rfl
                        rotate_left
                        · simp only [Act.put, List.setIfInBounds_toArray, List.set_cons_zero, List.set_cons_succ, i64_w, i32_w]
                          rfl
                        refine pure_ (i := 7) (N := some 60) (v := ?_) (a' := ?_) #[true, true, true, true, false, true, true, true, false, false, false, false, false, false, false, false, false, false, false, false, false, false, false, false, false, false, false, false, false, false, false, false, false, false, false, false, false, false] rfl rfl (any_of HT_.out (by kernel_rfl)) (fun _ _ _ h => h) (Or.inl ⟨by rfl, ?_⟩) ?_ ?_
                        rotate_left
                        · intro w'
                          go_simp
                          with_reducible rfl
                        rotate_left
                        · simp only [Act.put, List.setIfInBounds_toArray, List.set_cons_zero, List.set_cons_succ, i64_w, i32_w]
                          rfl
                        refine pure_ (i := 8) (N := some 61) (v := ?_) (a' := ?_) #[true, true, true, true, false, true, true, true, true, false, false, false, false, false, false, false, false, false, false, false, false, false, false, false, false, false, false, false, false, false, false, false, false, false, false, false, false, false] rfl rfl (any_of HT_.out (by kernel_rfl)) (fun _ _ _ h => h) (Or.inl ⟨by rfl, ?_⟩) ?_ ?_
                        rotate_left
                        · intro w'
                          go_simp
                          with_reducible rfl
                        rotate_left
                        · simp only [Act.put, List.setIfInBounds_toArray, List.set_cons_zero, List.set_cons_succ, i64_w, i32_w]
                          rfl
                        refine take_ (i := 4) (N := some 57) (v := ?_) (a' := ?_) #[true, true, true, true, true, true, true, true, true, false, false, false, false, false, false, false, false, false, false, false, false, false, false, false, false, false, false, false, false, false, false, false, false, false, false, false, false, false] rfl rfl (take_ofW HT_.out HW_.out (by kernel_rfl)) (fun _ _ _ h => h) (Or.inl ⟨by rfl, ?_⟩) hHeld ?_ ?_
                        rotate_left
                        · rintro w' ⟨s0, s1, s2, s3, s4, s5, s6, s7, s8, s9, s10, s11⟩
                          go_simp
                          with_reducible rfl
                        rotate_left
                        · simp only [Act.put, List.setIfInBounds_toArray, List.set_cons_zero, List.set_cons_succ, i64_w, i32_w]
                          rfl
                        refine take_ (i := 9) (N := some 62) (v := ?_) (a' := ?_) #[true, true, true, true, true, true, true, true, true, true, false, false, false, false, false, false, false, false, false, false, false, false, false, false, false, false, false, false, false, false, false, false, false, false, false, false, false, false] rfl rfl (take_ofW HT_.out HW_.out (by kernel_rfl)) (fun _ _ _ h => h) (Or.inl ⟨by rfl, ?_⟩) hHeld ?_ ?_
                        rotate_left
                        · rintro w' ⟨s0, s1, s2, s3, s4, s5, s6, s7, s8, s9, s10, s11⟩
                          go_simp
                          with_reducible rfl
                        rotate_left
                        · simp only [Act.put, List.setIfInBounds_toArray, List.set_cons_zero, List.set_cons_succ, i64_w, i32_w]
                          rfl
                        refine pure_ (i := 10) (N := some 63) (v := ?_) (a' := ?_) #[true, true, true, true, true, true, true, true, true, true, true, false, false, false, false, false, false, false, false, false, false, false, false, false, false, false, false, false, false, false, false, false, false, false, false, false, false, false] rfl rfl (any_of HT_.out (by kernel_rfl)) (fun _ _ _ h => h) (Or.inl ⟨by rfl, ?_⟩) ?_ ?_
                        rotate_left
                        · intro w'
                          go_simp
                          with_reducible rfl
                        rotate_left
                        · simp only [Act.put, List.setIfInBounds_toArray, List.set_cons_zero, List.set_cons_succ, i64_w, i32_w]
                          rfl
                        refine pure_ (i := 11) (N := some 64) (v := ?_) (a' := ?_) #[true, true, true, true, true, true, true, true, true, true, true, true, false, false, false, false, false, false, false, false, false, false, false, false, false, false, false, false, false, false, false, false, false, false, false, false, false, false] rfl rfl (any_of HT_.out (by kernel_rfl)) (fun _ _ _ h => h) (Or.inl ⟨by rfl, ?_⟩) ?_ ?_
                        rotate_left
                        · intro w'
                          go_simp
                          with_reducible rfl
                        rotate_left
                        · simp only [Act.put, List.setIfInBounds_toArray, List.set_cons_zero, List.set_cons_succ, i64_w, i32_w]
                          rfl
                        refine pure_ (i := 12) (N := some 65) (v := undef) (a' := ?_) #[true, true, true, true, true, true, true, true, true, true, true, true, true, false, false, false, false, false, false, false, false, false, false, false, false, false, false, false, false, false, false, false, false, false, false, false, false, false] rfl rfl (any_of HT_.out (by kernel_rfl)) (fun _ _ _ h => h) (Or.inr ⟨by rfl, rfl⟩) ?_ ?_
                        rotate_left
                        · simp only [Act.put, List.setIfInBounds_toArray, List.set_cons_zero, List.set_cons_succ, i64_w, i32_w]
                          rfl
                        refine pure_ (i := 13) (N := some 66) (v := undef) (a' := ?_) #[true, true, true, true, true, true, true, true, true, true, true, true, true, true, false, false, false, false, false, false, false, false, false, false, false, false, false, false, false, false, false, false, false, false, false, false, false, false] rfl rfl (any_of HT_.out (by kernel_rfl)) (fun _ _ _ h => h) (Or.inr ⟨by rfl, rfl⟩) ?_ ?_
                        rotate_left
                        · simp only [Act.put, List.setIfInBounds_toArray, List.set_cons_zero, List.set_cons_succ, i64_w, i32_w]
                          rfl
                        refine pure_ (i := 14) (N := some 67) (v := undef) (a' := ?_) #[true, true, true, true, true, true, true, true, true, true, true, true, true, true, true, false, false, false, false, false, false, false, false, false, false, false, false, false, false, false, false, false, false, false, false, false, false, false] rfl rfl (any_of HT_.out (by kernel_rfl)) (fun _ _ _ h => h) (Or.inr ⟨by rfl, rfl⟩) ?_ ?_
                        rotate_left
                        · simp only [Act.put, List.setIfInBounds_toArray, List.set_cons_zero, List.set_cons_succ, i64_w, i32_w]
                          rfl
                        refine pure_ (i := 15) (N := some 68) (v := undef) (a' := ?_) #[true, true, true, true, true, true, true, true, true, true, true, true, true, true, true, true, false, false, false, false, false, false, false, false, false, false, false, false, false, false, false, false, false, false, false, false, false, false] rfl rfl (any_of HT_.out (by kernel_rfl)) (fun _ _ _ h => h) (Or.inr ⟨by rfl, rfl⟩) ?_ ?_
                        rotate_left
                        · simp only [Act.put, List.setIfInBounds_toArray, List.set_cons_zero, List.set_cons_succ, i64_w, i32_w]
                          rfl
                        refine pure_ (i := 16) (N := some 69) (v := undef) (a' := ?_) #[true, true, true, true, true, true, true, true, true, true, true, true, true, true, true, true, true, false, false, false, false, false, false, false, false, false, false, false, false, false, false, false, false, false, false, false, false, false] rfl rfl (any_of HT_.out (by kernel_rfl)) (fun _ _ _ h => h) (Or.inr ⟨by rfl, rfl⟩) ?_ ?_
                        rotate_left
                        · simp only [Act.put, List.setIfInBounds_toArray, List.set_cons_zero, List.set_cons_succ, i64_w, i32_w]
                          rfl
                        refine pure_ (i := 17) (N := some 70) (v := undef) (a' := ?_) #[true, true, true, true, true, true, true, true, true, true, true, true, true, true, true, true, true, true, false, false, false, false, false, false, false, false, false, false, false, false, false, false, false, false, false, false, false, false] rfl rfl (any_of HT_.out (by kernel_rfl)) (fun _ _ _ h => h) (Or.inr ⟨by rfl, rfl⟩) ?_ ?_
                        rotate_left
                        · simp only [Act.put, List.setIfInBounds_toArray, List.set_cons_zero, List.set_cons_succ, i64_w, i32_w]
                          rfl
                        refine pure_ (i := 18) (N := some 71) (v := undef) (a' := ?_) #[true, true, true, true, true, true, true, true, true, true, true, true, true, true, true, true, true, true, true, false, false, false, false, false, false, false, false, false, false, false, false, false, false, false, false, false, false, false] rfl rfl (any_of HT_.out (by kernel_rfl)) (fun _ _ _ h => h) (Or.inr ⟨by rfl, rfl⟩) ?_ ?_
                        rotate_left
                        · simp only [Act.put, List.setIfInBounds_toArray, List.set_cons_zero, List.set_cons_succ, i64_w, i32_w]
                          rfl
                        refine pure_ (i := 19) (N := some 72) (v := undef) (a' := ?_) #[true, true, true, true, true, true, true, true, true, true, true, true, true, true, true, true, true, true, true, true, false, false, false, false, false, false, false, false, false, false, false, false, false, false, false, false, false, false] rfl rfl (any_of HT_.out (by kernel_rfl)) (fun _ _ _ h => h) (Or.inr ⟨by rfl, rfl⟩) ?_ ?_
                        rotate_left
                        · simp only [Act.put, List.setIfInBounds_toArray, List.set_cons_zero, List.set_cons_succ, i64_w, i32_w]
                          rfl
                        refine pure_ (i := 20) (N := some 73) (v := undef) (a' := ?_) #[true, true, true, true, true, true, true, true, true, true, true, true, true, true, true, true, true, true, true, true, true, false, false, false, false, false, false, false, false, false, false, false, false, false, false, false, false, false] rfl rfl (any_of HT_.out (by kernel_rfl)) (fun _ _ _ h => h) (Or.inr ⟨by rfl, rfl⟩) ?_ ?_
                        rotate_left
                        · simp only [Act.put, List.setIfInBounds_toArray, List.set_cons_zero, List.set_cons_succ, i64_w, i32_w]
                          rfl
                        refine pure_ (i := 21) (N := some 74) (v := undef) (a' := ?_) #[true, true, true, true, true, true, true, true, true, true, true, true, true, true, true, true, true, true, true, true, true, true, false, false, false, false, false, false, false, false, false, false, false, false, false, false, false, false] rfl rfl (any_of HT_.out (by kernel_rfl)) (fun _ _ _ h => h) (Or.inr ⟨by rfl, rfl⟩) ?_ ?_
                        rotate_left
                        · simp only [Act.put, List.setIfInBounds_toArray, List.set_cons_zero, List.set_cons_succ, i64_w, i32_w]
                          rfl
                        refine pure_ (i := 22) (N := some 75) (v := undef) (a' := ?_) #[true, true, true, true, true, true, true, true, true, true, true, true, true, true, true, true, true, true, true, true, true, true, true, false, false, false, false, false, false, false, false, false, false, false, false, false, false, false] rfl rfl (any_of HT_.out (by kernel_rfl)) (fun _ _ _ h => h) (Or.inr ⟨by rfl, rfl⟩) ?_ ?_
                        rotate_left
                        · simp only [Act.put, List.setIfInBounds_toArray, List.set_cons_zero, List.set_cons_succ, i64_w, i32_w]
                          rfl
                        refine pure_ (i := 23) (N := some 76) (v := ?_) (a' := ?_) #[true, true, true, true, true, true, true, true, true, true, true, true, true, true, true, true, true, true, true, true, true, true, true, true, false, false, false, false, false, false, false, false, false, false, false, false, false, false] rfl rfl (any_of HT_.out (by kernel_rfl)) (fun _ _ _ h => h) (Or.inl ⟨by rfl, ?_⟩) ?_ ?_
                        rotate_left
                        · intro w'
                          go_simp
                          with_reducible rfl
                        rotate_left
                        · simp only [Act.put, List.setIfInBounds_toArray, List.set_cons_zero, List.set_cons_succ, i64_w, i32_w]
                          rfl
                        refine pure_ (i := 24) (N := some 77) (v := ?_) (a' := ?_) #[true, true, true, true, true, true, true, true, true, true, true, true, true, true, true, true, true, true, true, true, true, true, true, true, true, false, false, false, false, false, false, false, false, false, false, false, false, false] rfl rfl (any_of HT_.out (by kernel_rfl)) (fun _ _ _ h => h) (Or.inl ⟨by rfl, ?_⟩) ?_ ?_
                        rotate_left
                        · intro w'
                          go_simp
                          with_reducible rfl
                        rotate_left
                        · simp only [Act.put, List.setIfInBounds_toArray, List.set_cons_zero, List.set_cons_succ, i64_w, i32_w]
                          rfl
                        refine pure_ (i := 25) (N := some 78) (v := undef) (a' := ?_) #[true, true, true, true, true, true, true, true, true, true, true, true, true, true, true, true, true, true, true, true, true, true, true, true, true, true, false, false, false, false, false, false, false, false, false, false, false, false] rfl rfl (any_of HT_.out (by kernel_rfl)) (fun _ _ _ h => h) (Or.inr ⟨by rfl, rfl⟩) ?_ ?_
                        rotate_left
                        · simp only [Act.put, List.setIfInBounds_toArray, List.set_cons_zero, List.set_cons_succ, i64_w, i32_w]
                          rfl
                        refine pure_ (i := 26) (N := some 79) (v := undef) (a' := ?_) #[true, true, true, true, true, true, true, true, true, true, true, true, true, true, true, true, true, true, true, true, true, true, true, true, true, true, true, false, false, false, false, false, false, false, false, false, false, false] rfl rfl (any_of HT_.out (by kernel_rfl)) (fun _ _ _ h => h) (Or.inr ⟨by rfl, rfl⟩) ?_ ?_
                        rotate_left
                        · simp only [Act.put, List.setIfInBounds_toArray, List.set_cons_zero, List.set_cons_succ, i64_w, i32_w]
                          rfl
                        refine pure_ (i := 27) (N := some 80) (v := undef) (a' := ?_) #[true, true, true, true, true, true, true, true, true, true, true, true, true, true, true, true, true, true, true, true, true, true, true, true, true, true, true, true, false, false, false, false, false, false, false, false, false, false] rfl rfl (any_of HT_.out (by kernel_rfl)) (fun _ _ _ h => h) (Or.inr ⟨by rfl, rfl⟩) ?_ ?_
                        rotate_left
                        · simp only [Act.put, List.setIfInBounds_toArray, List.set_cons_zero, List.set_cons_succ, i64_w, i32_w]
                          rfl
                        refine pure_ (i := 28) (N := some 81) (v := undef) (a' := ?_) #[true, true, true, true, true, true, true, true, true, true, true, true, true, true, true, true, true, true, true, true, true, true, true, true, true, true, true, true, true, false, false, false, false, false, false, false, false, false] rfl rfl (any_of HT_.out (by kernel_rfl)) (fun _ _ _ h => h) (Or.inr ⟨by rfl, rfl⟩) ?_ ?_
                        rotate_left
                        · simp only [Act.put, List.setIfInBounds_toArray, List.set_cons_zero, List.set_cons_succ, i64_w, i32_w]
                          rfl
                        refine pure_ (i := 29) (N := some 82) (v := undef) (a' := ?_) #[true, true, true, true, true, true, true, true, true, true, true, true, true, true, true, true, true, true, true, true, true, true, true, true, true, true, true, true, true, true, false, false, false, false, false, false, false, false] rfl rfl (any_of HT_.out (by kernel_rfl)) (fun _ _ _ h => h) (Or.inr ⟨by rfl, rfl⟩) ?_ ?_
                        rotate_left
                        · simp only [Act.put, List.setIfInBounds_toArray, List.set_cons_zero, List.set_cons_succ, i64_w, i32_w]
                          rfl
                        refine pure_ (i := 30) (N := some 83) (v := undef) (a' := ?_) #[true, true, true, true, true, true, true, true, true, true, true, true, true, true, true, true, true, true, true, true, true, true, true, true, true, true, true, true, true, true, true, false, false, false, false, false, false, false] rfl rfl (any_of HT_.out (by kernel_rfl)) (fun _ _ _ h => h) (Or.inr ⟨by rfl, rfl⟩) ?_ ?_
                        rotate_left
                        · simp only [Act.put, List.setIfInBounds_toArray, List.set_cons_zero, List.set_cons_succ, i64_w, i32_w]
                          rfl
                        refine pure_ (i := 31) (N := some 84) (v := undef) (a' := ?_) #[true, true, true, true, true, true, true, true, true, true, true, true, true, true, true, true, true, true, true, true, true, true, true, true, true, true, true, true, true, true, true, true, false, false, false, false, false, false] rfl rfl (any_of HT_.out (by kernel_rfl)) (fun _ _ _ h => h) (Or.inr ⟨by rfl, rfl⟩) ?_ ?_
                        rotate_left
                        · simp only [Act.put, List.setIfInBounds_toArray, List.set_cons_zero, List.set_cons_succ, i64_w, i32_w]
                          rfl
                        refine pure_ (i := 32) (N := some 85) (v := undef) (a' := ?_) #[true, true, true, true, true, true, true, true, true, true, true, true, true, true, true, true, true, true, true, true, true, true, true, true, true, true, true, true, true, true, true, true, true, false, false, false, false, false] rfl rfl (any_of HT_.out (by kernel_rfl)) (fun _ _ _ h => h) (Or.inr ⟨by rfl, rfl⟩) ?_ ?_
                        rotate_left
                        · simp only [Act.put, List.setIfInBounds_toArray, List.set_cons_zero, List.set_cons_succ, i64_w, i32_w]
                          rfl
                        refine pure_ (i := 33) (N := some 86) (v := undef) (a' := ?_) #[true, true, true, true, true, true, true, true, true, true, true, true, true, true, true, true, true, true, true, true, true, true, true, true, true, true, true, true, true, true, true, true, true, true, false, false, false, false] rfl rfl (any_of HT_.out (by kernel_rfl)) (fun _ _ _ h => h) (Or.inr ⟨by rfl, rfl⟩) ?_ ?_
                        rotate_left
                        · simp only [Act.put, List.setIfInBounds_toArray, List.set_cons_zero, List.set_cons_succ, i64_w, i32_w]
                          rfl
                        refine pure_ (i := 34) (N := some 87) (v := undef) (a' := ?_) #[true, true, true, true, true, true, true, true, true, true, true, true, true, true, true, true, true, true, true, true, true, true, true, true, true, true, true, true, true, true, true, true, true, true, true, false, false, false] rfl rfl (any_of HT_.out (by kernel_rfl)) (fun _ _ _ h => h) (Or.inr ⟨by rfl, rfl⟩) ?_ ?_
                        rotate_left
                        · simp only [Act.put, List.setIfInBounds_toArray, List.set_cons_zero, List.set_cons_succ, i64_w, i32_w]
                          rfl
                        refine pure_ (i := 35) (N := some 88) (v := undef) (a' := ?_) #[true, true, true, true, true, true, true, true, true, true, true, true, true, true, true, true, true, true, true, true, true, true, true, true, true, true, true, true, true, true, true, true, true, true, true, true, false, false] rfl rfl (any_of HT_.out (by kernel_rfl)) (fun _ _ _ h => h) (Or.inr ⟨by rfl, rfl⟩) ?_ ?_
                        rotate_left
                        · simp only [Act.put, List.setIfInBounds_toArray, List.set_cons_zero, List.set_cons_succ, i64_w, i32_w]
                          rfl
                        refine pure_ (i := 36) (N := some 89) (v := undef) (a' := ?_) #[true, true, true, true, true, true, true, true, true, true, true, true, true, true, true, true, true, true, true, true, true, true, true, true, true, true, true, true, true, true, true, true, true, true, true, true, true, false] rfl rfl (any_of HT_.out (by kernel_rfl)) (fun _ _ _ h => h) (Or.inr ⟨by rfl, rfl⟩) ?_ ?_
                        rotate_left
                        · simp only [Act.put, List.setIfInBounds_toArray, List.set_cons_zero, List.set_cons_succ, i64_w, i32_w]
                          rfl
                        refine pure_ (i := 37) (N := some 90) (v := ?_) (a' := ?_) #[true, true, true, true, true, true, true, true, true, true, true, true, true, true, true, true, true, true, true, true, true, true, true, true, true, true, true, true, true, true, true, true, true, true, true, true, true, true] rfl rfl (any_of HT_.out (by kernel_rfl)) (fun _ _ _ h => h) (Or.inl ⟨by rfl, ?_⟩) ?_ ?_
                        rotate_left
                        · intro w'
                          go_simp
                          with_reducible rfl
                        rotate_left
                        · simp only [Act.put, List.setIfInBounds_toArray, List.set_cons_zero, List.set_cons_succ, i64_w, i32_w]
                          rfl
                        refine done_ (done_of HT_.out (by kernel_rfl)) ?_
                        try go_wp2
                        go_meet
                        case rel => exact ⟨_, (true), (by first | rfl | (simp; done) | (simp [*]; done) | exact isEmpty_bne _), H', ⟨by have := HJ9.out; have := HK2.out; first | omega | exact Nat.le_refl _⟩, ⟨by (with_reducible repeat (first | apply Kd.S_alloc | apply Kd.S_drewN | apply Kd.S_drew)); exact HO_9.out⟩, ⟨by (with_reducible repeat (first | apply Kd.S_alloc | apply Kd.S_drewN | apply Kd.S_drew)); exact HO_10.out⟩, ⟨by (with_reducible repeat (first | apply Kd.R_alloc | apply Kd.R_drewN | apply Kd.R_drew)); exact HO_11.out⟩, ⟨by repeat (first | (with_reducible first | exact HB.out | apply below_alloc | apply pw_below_drewN | apply below_drew1) | exact HB.out)⟩⟩
                    · rw [if_neg c29] at H
                      exact absurd H (by simp)
                  · rw [if_neg c28] at H
                    exact absurd H (by simp)
                case rest =>
                  clear HC26
                  try clear c2
                  try clear p2
                  try clear q2
                  try clear hx2
                  try clear c3
                  try clear c23
                  try clear p23
                  try clear q23
                  try clear hx23
                  try clear c28
                  try clear c29
                  try clear c30
                  try clear c30b0
                  try clear c30b1
                  try clear hx235_0
                  try clear hx235_1
                  try clear hx235_2
                  try clear hx235_3
                  try clear hx235_4
                  try clear hx235_5
                  try clear hx236_0
                  try clear hx236_1
                  try clear hx236_2
                  try clear hx236_3
                  try clear hx236_4
                  try clear hx236_5
                  try clear hx237_0
                  try clear hx237_1
                  try clear hx237_2
                  try clear hx237_3
                  try clear hx237_4
                  try clear hx237_5
                  try clear hx238_0
                  try clear hx238_1
                  try clear hx238_2
                  try clear hx238_3
                  try clear hx238_4
                  try clear hx238_5
                  try clear p235
                  try clear p236
                  try clear p238
                  try clear q235
                  try clear q236
                  try clear q238
                  obtain ⟨kq, x90_25, rfl, HA, HJ25, HO_9, HO_10, HO_11, HB⟩ := hcut
                  cases kq with
                  | zero => exact absurd HA.out (by simp [logbooklaw17_ScanObjects.j2])
                  | succ kj25 =>
                    have H := HA.out
                    clear HA
                    simp only [logbooklaw17_ScanObjects.j2] at H
                    by_cases c40 : x90_25 = true
                    · subst c40
                      have H1 : (some false) = some r := by rw [if_pos rfl] at H; exact H
                      clear H
                      have H := H1
                      clear H1
                      obtain rfl := Option.some.inj H
                      go_wp2
                      go_ret
                      exact ⟨by first | rfl | (simp [errW_none, errW_some] <;> rfl) | (simp [*, errW_none, errW_some] <;> rfl), by repeat (first | (with_reducible first | exact HB.out | apply below_alloc | apply pw_below_drewN | apply below_drew1) | exact HB.out)⟩
                    · replace c40 := Bool.eq_false_iff.mpr c40
                      subst c40
                      have H1 : (if 0 ≤ x13_2 then (if x13_2 < (t226.length : Int) then (if ((rd_T33 t226 x13_2).f2.f0) = a3 then (if x12_2 ≥ (t231.length : Int) then (some false) else (if 0 ≤ x12_2 then (if x12_2 < (t231.length : Int) then (if (rd t231 x12_2) = ((rd_T33 t226 x13_2).f0) then (logbooklaw17_ScanObjects.l0 kj25 a3 t223 t226 t231 (wrap64 (x12_2 + 1)) (wrap64 (x13_2 + 1))) else (some false)) else (none)) else (none))) else (logbooklaw17_ScanObjects.l0 kj25 a3 t223 t226 t231 x12_2 (wrap64 (x13_2 + 1)))) else (none)) else (none)) = some r := by rw [if_neg (show ¬ (false = true) by decide)] at H; exact H
                      clear H
                      have H := H1
                      clear H1
                      by_cases c41 : 0 ≤ x13_2
                      · rw [if_pos c41] at H
                        have c41b0 : decide (0 ≤ x13_2) = true := decide_eq_true c41
                        clear c41
                        by_cases c42 : x13_2 < (t226.length : Int)
                        · rw [if_pos c42] at H
                          have c42b0 : decide (x13_2 < (t226.length : Int)) = true := decide_eq_true c42
                          clear c42
                          by_cases c43 : ((rd_T33 t226 x13_2).f2.f0) = a3
                          · rw [if_pos c43] at H
                            have c43b0 : (((rd_T33 t226 x13_2).f2.f0) == a3) = true := beq_iff_eq.mpr c43
                            have c43b1 : (((rd_T33 t226 x13_2).f2.f0) != a3) = false := bne_eq_false_iff_eq.mpr c43
                            clear c43
                            by_cases c44 : x12_2 ≥ (t231.length : Int)
                            · rw [if_pos c44] at H
                              have c44b0 : decide ((t231.length : Int) ≤ x12_2) = true := decide_eq_true c44
                              clear c44
                              obtain rfl := Option.some.inj H
                              obtain ⟨Ao45, co45, eo45⟩ := Kd.S_slice HO_10.out
                              subst eo45
                              have p242 : 0 ≤ (x13_2 : Int) := of_decide_eq_true (by first | (with_reducible assumption) | assumption)
                              have q242 : x13_2 < (t226.length : Int) := of_decide_eq_true (by first | (with_reducible assumption) | assumption)
                              try (obtain ⟨Az_, cz_, ez_⟩ := Kd.S_slice HO_10.out; subst ez_)
                              obtain ⟨ad242, A242_3, c242_3, A242_4, c242_4, A242_5, c242_5, e242, hx242_0, hx242_1, hx242_2, hx242_3, hx242_4, hx242_5, hl242_3, hi242_3, hl242_4, hi242_4, hl242_5, hi242_5⟩ := at_T33 (Kd.S_reads' HO_10.out).2.2 x13_2 p242 q242
                              cases e242
                              obtain ⟨ce242, hce242, hMe242, hcc242⟩ := Kd.S_get HO_10.out z33 x13_2 p242 (by first | exact q242 | exact of_decide_eq_true (by first | (with_reducible assumption) | assumption) | (have e_ := (Kd.S_reads' HO_10.out).1; omega))
                              obtain ⟨ve242_3, ve242_4, ve242_5, rfl, ge242_3, ge242_4, ge242_5⟩ := k33_openM hMe242
                              have hv242_3 := hcc242 3 _ rfl
                              rw [add_field _ _ 3 (by omega)] at hv242_3
                              replace hv242_3 := Option.some.inj (hv242_3.symm.trans hx242_3)
                              rw [hv242_3] at ge242_3
                              have HL242_3 := Aside0.mk (show Kd.R (Kd.int .u64) 47 _ _ _ _ ((rd_T33 t226 x13_2).f2.f1) from ge242_3)
                              clear hv242_3 ge242_3
                              have hv242_4 := hcc242 4 _ rfl
                              rw [add_field _ _ 4 (by omega)] at hv242_4
                              replace hv242_4 := Option.some.inj (hv242_4.symm.trans hx242_4)
                              rw [hv242_4] at ge242_4
                              have HL242_4 := Aside0.mk (show Kd.R (Kd.int .u8) 5 _ _ _ _ ((rd_T33 t226 x13_2).f2.f2) from ge242_4)
                              clear hv242_4 ge242_4
                              have hv242_5 := hcc242 5 _ rfl
                              rw [add_field _ _ 5 (by omega)] at hv242_5
                              replace hv242_5 := Option.some.inj (hv242_5.symm.trans hx242_5)
                              rw [hv242_5] at ge242_5
                              have HL242_5 := Aside0.mk (show Kd.R (Kd.int .u64) 47 _ _ _ _ ((rd_T33 t226 x13_2).f2.f3) from ge242_5)
                              clear hv242_5 ge242_5
                              clear hcc242 hce242
                              have HR242_3 := Aside0.mk hi242_3
                              have HC242_3 := Aside0.mk hl242_3
                              clear hi242_3 hl242_3
                              have HR242_4 := Aside0.mk hi242_4
                              have HC242_4 := Aside0.mk hl242_4
                              clear hi242_4 hl242_4
                              have HR242_5 := Aside0.mk hi242_5
                              have HC242_5 := Aside0.mk hl242_5
                              clear hi242_5 hl242_5
                              replace p242 := eq_true p242
                              replace q242 := eq_true q242
                              (try (have ea_ := Option.some.inj (HS3_.symm.trans hx242_3); injection ea_ with ea_ en_ ec_; subst ea_; subst ec_; clear en_))
                              (try (have ea_ := Option.some.inj (HS4_.symm.trans hx242_4); injection ea_ with ea_ en_ ec_; subst ea_; subst ec_; clear en_))
                              (try (have ea_ := Option.some.inj (HS5_.symm.trans hx242_5); injection ea_ with ea_ en_ ec_; subst ea_; subst ec_; clear en_))
                              try go_wp2
                              have n0_ := Aside0.mk (Kd.S_drew HO_9.out)
                              have n1_ := Aside0.mk (Kd.S_drew HO_10.out)
                              have n2_ := Aside0.mk (Kd.R_drew HO_11.out)
                              have n3_ := Aside0.mk (Kd.R_drew HL242_3.out)
                              have n4_ := Aside0.mk (Kd.R_drew HL242_4.out)
                              have n5_ := Aside0.mk (Kd.R_drew HL242_5.out)
                              have n6_ := Aside0.mk (Kd.C_drew HR242_3.out)
                              have n7_ := Aside0.mk (Kd.C_drew HR242_4.out)
                              have n8_ := Aside0.mk (Kd.C_drew HR242_5.out)
                              have n9_ := Aside0.mk (below_drew1 HB.out)
                              clear HO_9
                              clear HO_10
                              clear HO_11
                              clear HL242_3
                              clear HL242_4
                              clear HL242_5
                              clear HR242_3
                              clear HR242_4
                              clear HR242_5
                              clear HB
                              have HO_9 := n0_
                              have HO_10 := n1_
                              have HO_11 := n2_
                              have HL242_3 := n3_
                              have HL242_4 := n4_
                              have HL242_5 := n5_
                              have HR242_3 := n6_
                              have HR242_4 := n7_
                              have HR242_5 := n8_
                              have HB := n9_
                              clear n0_ n1_ n2_ n3_ n4_ n5_ n6_ n7_ n8_ n9_
                              obtain ⟨Ao47, co47, eo47⟩ := Kd.R_slice HO_11.out
                              (first | subst eo47 | (injection eo47 with f1_ f2_ f3_; have f4_ := f1_.symm; have f5_ := f3_.symm; clear f1_ f2_ f3_; subst f4_; subst f5_))
                              refine start_ (n := 16) (S := fun w' => True) (ds := []) #[false, false, false, false, false, false, false, false, false, false, false, false, false, false, false, false] (by kernel_rfl) rfl rfl trivial (fun hHeld => ?_); refine with_tabW logbooklaw17_ScanObjects.tab14 logbooklaw17_ScanObjects.bits14 (fun HT_ HW_ => ?_)
                              generalize wc.drew = w46 at HO_9 HO_10 HO_11 HL242_3 HL242_4 HL242_5 HR242_3 HR242_4 HR242_5 HB hHeld ⊢
                              refine pure_ (i := 0) (N := some 99) (v := ?_) (a' := ?_) #[true, false, false, false, false, false, false, false, false, false, false, false, false, false, false, false] rfl rfl (any_of HT_.out (by kernel_rfl)) (fun _ _ _ h => h) (Or.inl ⟨by rfl, ?_⟩) ?_ ?_
                              rotate_left
                              · intro w'
                                go_simp
                                with_reducible rfl
                              rotate_left
                              · simp only [Act.put, List.setIfInBounds_toArray, List.set_cons_zero, List.set_cons_succ, i64_w, i32_w]
                                rfl
                              refine pure_ (i := 1) (N := some 100) (v := ?_) (a' := ?_) #[true, true, false, false, false, false, false, false, false, false, false, false, false, false, false, false] rfl rfl (any_of HT_.out (by kernel_rfl)) (fun _ _ _ h => h) (Or.inl ⟨by rfl, ?_⟩) ?_ ?_
                              rotate_left
                              · intro w'
                                go_simp
                                with_reducible rfl
                              rotate_left
                              · simp only [Act.put, List.setIfInBounds_toArray, List.set_cons_zero, List.set_cons_succ, i64_w, i32_w]
                                rfl
                              refine pure_ (i := 2) (N := some 101) (v := ?_) (a' := ?_) #[true, true, true, false, false, false, false, false, false, false, false, false, false, false, false, false] rfl rfl (any_of HT_.out (by kernel_rfl)) (fun _ _ _ h => h) (Or.inl ⟨by rfl, ?_⟩) ?_ ?_
                              rotate_left
                              · intro w'
                                go_simp
                                with_reducible rfl
                              rotate_left
                              · simp only [Act.put, List.setIfInBounds_toArray, List.set_cons_zero, List.set_cons_succ, i64_w, i32_w]
                                rfl
                              refine pure_ (i := 3) (N := some 102) (v := ?_) (a' := ?_) #[true, true, true, true, false, false, false, false, false, false, false, false, false, false, false, false] rfl rfl (any_of HT_.out (by kernel_rfl)) (fun _ _ _ h => h) (Or.inl ⟨by rfl, ?_⟩) ?_ ?_
                              rotate_left
                              · intro w'
                                go_simp
                                with_reducible rfl
                              rotate_left
                              · simp only [Act.put, List.setIfInBounds_toArray, List.set_cons_zero, List.set_cons_succ, i64_w, i32_w]
                                rfl
                              refine pure_ (i := 4) (N := some 103) (v := ?_) (a' := ?_) #[true, true, true, true, true, false, false, false, false, false, false, false, false, false, false, false] rfl rfl (any_of HT_.out (by kernel_rfl)) (fun _ _ _ h => h) (Or.inl ⟨by rfl, ?_⟩) ?_ ?_
                              rotate_left
                              · intro w'
                                go_simp
                                with_reducible rfl
                              rotate_left
                              · simp only [Act.put, List.setIfInBounds_toArray, List.set_cons_zero, List.set_cons_succ, i64_w, i32_w]
                                rfl
                              refine pure_ (i := 5) (N := some 104) (v := undef) (a' := ?_) #[true, true, true, true, true, true, false, false, false, false, false, false, false, false, false, false] rfl rfl (any_of HT_.out (by kernel_rfl)) (fun _ _ _ h => h) (Or.inr ⟨by rfl, rfl⟩) ?_ ?_
                              rotate_left
                              · simp only [Act.put, List.setIfInBounds_toArray, List.set_cons_zero, List.set_cons_succ, i64_w, i32_w]
                                rfl
                              refine pure_ (i := 6) (N := some 105) (v := undef) (a' := ?_) #[true, true, true, true, true, true, true, false, false, false, false, false, false, false, false, false] rfl rfl (any_of HT_.out (by kernel_rfl)) (fun _ _ _ h => h) (Or.inr ⟨by rfl, rfl⟩) ?_ ?_
                              rotate_left
                              · simp only [Act.put, List.setIfInBounds_toArray, List.set_cons_zero, List.set_cons_succ, i64_w, i32_w]
                                rfl
                              refine pure_ (i := 7) (N := some 106) (v := undef) (a' := ?_) #[true, true, true, true, true, true, true, true, false, false, false, false, false, false, false, false] rfl rfl (any_of HT_.out (by kernel_rfl)) (fun _ _ _ h => h) (Or.inr ⟨by rfl, rfl⟩) ?_ ?_
                              rotate_left
                              · simp only [Act.put, List.setIfInBounds_toArray, List.set_cons_zero, List.set_cons_succ, i64_w, i32_w]
                                rfl
                              refine pure_ (i := 8) (N := some 107) (v := undef) (a' := ?_) #[true, true, true, true, true, true, true, true, true, false, false, false, false, false, false, false] rfl rfl (any_of HT_.out (by kernel_rfl)) (fun _ _ _ h => h) (Or.inr ⟨by rfl, rfl⟩) ?_ ?_
                              rotate_left
                              · simp only [Act.put, List.setIfInBounds_toArray, List.set_cons_zero, List.set_cons_succ, i64_w, i32_w]
                                rfl
                              refine pure_ (i := 9) (N := some 108) (v := undef) (a' := ?_) #[true, true, true, true, true, true, true, true, true, true, false, false, false, false, false, false] rfl rfl (any_of HT_.out (by kernel_rfl)) (fun _ _ _ h => h) (Or.inr ⟨by rfl, rfl⟩) ?_ ?_
                              rotate_left
                              · simp only [Act.put, List.setIfInBounds_toArray, List.set_cons_zero, List.set_cons_succ, i64_w, i32_w]
                                rfl
                              refine pure_ (i := 10) (N := some 109) (v := undef) (a' := ?_) #[true, true, true, true, true, true, true, true, true, true, true, false, false, false, false, false] rfl rfl (any_of HT_.out (by kernel_rfl)) (fun _ _ _ h => h) (Or.inr ⟨by rfl, rfl⟩) ?_ ?_
                              rotate_left
                              · simp only [Act.put, List.setIfInBounds_toArray, List.set_cons_zero, List.set_cons_succ, i64_w, i32_w]
                                rfl
                              refine pure_ (i := 11) (N := some 110) (v := undef) (a' := ?_) #[true, true, true, true, true, true, true, true, true, true, true, true, false, false, false, false] rfl rfl (any_of HT_.out (by kernel_rfl)) (fun _ _ _ h => h) (Or.inr ⟨by rfl, rfl⟩) ?_ ?_
                              rotate_left
                              · simp only [Act.put, List.setIfInBounds_toArray, List.set_cons_zero, List.set_cons_succ, i64_w, i32_w]
                                rfl
                              refine pure_ (i := 12) (N := some 111) (v := undef) (a' := ?_) #[true, true, true, true, true, true, true, true, true, true, true, true, true, false, false, false] rfl rfl (any_of HT_.out (by kernel_rfl)) (fun _ _ _ h => h) (Or.inr ⟨by rfl, rfl⟩) ?_ ?_
                              rotate_left
                              · simp only [Act.put, List.setIfInBounds_toArray, List.set_cons_zero, List.set_cons_succ, i64_w, i32_w]
                                rfl
                              refine pure_ (i := 13) (N := some 112) (v := undef) (a' := ?_) #[true, true, true, true, true, true, true, true, true, true, true, true, true, true, false, false] rfl rfl (any_of HT_.out (by kernel_rfl)) (fun _ _ _ h => h) (Or.inr ⟨by rfl, rfl⟩) ?_ ?_
                              rotate_left
                              · simp only [Act.put, List.setIfInBounds_toArray, List.set_cons_zero, List.set_cons_succ, i64_w, i32_w]
                                rfl
                              refine pure_ (i := 14) (N := some 113) (v := undef) (a' := ?_) #[true, true, true, true, true, true, true, true, true, true, true, true, true, true, true, false] rfl rfl (any_of HT_.out (by kernel_rfl)) (fun _ _ _ h => h) (Or.inr ⟨by rfl, rfl⟩) ?_ ?_
                              rotate_left
                              · simp only [Act.put, List.setIfInBounds_toArray, List.set_cons_zero, List.set_cons_succ, i64_w, i32_w]
                                rfl
                              refine pure_ (i := 15) (N := some 114) (v := ?_) (a' := ?_) #[true, true, true, true, true, true, true, true, true, true, true, true, true, true, true, true] rfl rfl (any_of HT_.out (by kernel_rfl)) (fun _ _ _ h => h) (Or.inl ⟨by rfl, ?_⟩) ?_ ?_
                              rotate_left
                              · intro w'
                                go_simp
                                with_reducible rfl
                              rotate_left
                              · simp only [Act.put, List.setIfInBounds_toArray, List.set_cons_zero, List.set_cons_succ, i64_w, i32_w]
                                rfl
                              refine done_ (done_of HT_.out (by kernel_rfl)) ?_
                              try go_wp2
                              go_ret
                              exact ⟨by first | rfl | (simp [errW_none, errW_some] <;> rfl) | (simp [*, errW_none, errW_some] <;> rfl), by repeat (first | (with_reducible first | exact HB.out | apply below_alloc | apply pw_below_drewN | apply below_drew1) | exact HB.out)⟩
                            · rw [if_neg c44] at H
                              have c44b0 : decide ((t231.length : Int) ≤ x12_2) = false := decide_eq_false c44
                              clear c44
                              by_cases c48 : 0 ≤ x12_2
                              · rw [if_pos c48] at H
                                have c48b0 : decide (0 ≤ x12_2) = true := decide_eq_true c48
                                clear c48
                                by_cases c49 : x12_2 < (t231.length : Int)
                                · rw [if_pos c49] at H
                                  have c49b0 : decide (x12_2 < (t231.length : Int)) = true := decide_eq_true c49
                                  clear c49
                                  by_cases c50 : (rd t231 x12_2) = ((rd_T33 t226 x13_2).f0)
                                  · rw [if_pos c50] at H
                                    have c50b0 : ((rd t231 x12_2) == ((rd_T33 t226 x13_2).f0)) = true := beq_iff_eq.mpr c50
                                    have c50b1 : ((rd t231 x12_2) != ((rd_T33 t226 x13_2).f0)) = false := bne_eq_false_iff_eq.mpr c50
                                    clear c50
                                    have H' := Aside0.mk H
                                    clear H
                                    obtain ⟨Ao51, co51, eo51⟩ := Kd.S_slice HO_10.out
                                    subst eo51
                                    have p242 : 0 ≤ (x13_2 : Int) := of_decide_eq_true (by first | (with_reducible assumption) | assumption)
                                    have q242 : x13_2 < (t226.length : Int) := of_decide_eq_true (by first | (with_reducible assumption) | assumption)
                                    try (obtain ⟨Az_, cz_, ez_⟩ := Kd.S_slice HO_10.out; subst ez_)
                                    obtain ⟨ad242, A242_3, c242_3, A242_4, c242_4, A242_5, c242_5, e242, hx242_0, hx242_1, hx242_2, hx242_3, hx242_4, hx242_5, hl242_3, hi242_3, hl242_4, hi242_4, hl242_5, hi242_5⟩ := at_T33 (Kd.S_reads' HO_10.out).2.2 x13_2 p242 q242
                                    cases e242
                                    obtain ⟨ce242, hce242, hMe242, hcc242⟩ := Kd.S_get HO_10.out z33 x13_2 p242 (by first | exact q242 | exact of_decide_eq_true (by first | (with_reducible assumption) | assumption) | (have e_ := (Kd.S_reads' HO_10.out).1; omega))
                                    obtain ⟨ve242_3, ve242_4, ve242_5, rfl, ge242_3, ge242_4, ge242_5⟩ := k33_openM hMe242
                                    have hv242_3 := hcc242 3 _ rfl
                                    rw [add_field _ _ 3 (by omega)] at hv242_3
                                    replace hv242_3 := Option.some.inj (hv242_3.symm.trans hx242_3)
                                    rw [hv242_3] at ge242_3
                                    have HL242_3 := Aside0.mk (show Kd.R (Kd.int .u64) 47 _ _ _ _ ((rd_T33 t226 x13_2).f2.f1) from ge242_3)
                                    clear hv242_3 ge242_3
                                    have hv242_4 := hcc242 4 _ rfl
                                    rw [add_field _ _ 4 (by omega)] at hv242_4
                                    replace hv242_4 := Option.some.inj (hv242_4.symm.trans hx242_4)
                                    rw [hv242_4] at ge242_4
                                    have HL242_4 := Aside0.mk (show Kd.R (Kd.int .u8) 5 _ _ _ _ ((rd_T33 t226 x13_2).f2.f2) from ge242_4)
                                    clear hv242_4 ge242_4
                                    have hv242_5 := hcc242 5 _ rfl
                                    rw [add_field _ _ 5 (by omega)] at hv242_5
                                    replace hv242_5 := Option.some.inj (hv242_5.symm.trans hx242_5)
                                    rw [hv242_5] at ge242_5
                                    have HL242_5 := Aside0.mk (show Kd.R (Kd.int .u64) 47 _ _ _ _ ((rd_T33 t226 x13_2).f2.f3) from ge242_5)
                                    clear hv242_5 ge242_5
                                    clear hcc242 hce242
                                    have HR242_3 := Aside0.mk hi242_3
                                    have HC242_3 := Aside0.mk hl242_3
                                    clear hi242_3 hl242_3
                                    have HR242_4 := Aside0.mk hi242_4
                                    have HC242_4 := Aside0.mk hl242_4
                                    clear hi242_4 hl242_4
                                    have HR242_5 := Aside0.mk hi242_5
                                    have HC242_5 := Aside0.mk hl242_5
                                    clear hi242_5 hl242_5
                                    replace p242 := eq_true p242
                                    replace q242 := eq_true q242
                                    (try (have ea_ := Option.some.inj (HS3_.symm.trans hx242_3); injection ea_ with ea_ en_ ec_; subst ea_; subst ec_; clear en_))
                                    (try (have ea_ := Option.some.inj (HS4_.symm.trans hx242_4); injection ea_ with ea_ en_ ec_; subst ea_; subst ec_; clear en_))
                                    (try (have ea_ := Option.some.inj (HS5_.symm.trans hx242_5); injection ea_ with ea_ en_ ec_; subst ea_; subst ec_; clear en_))
                                    try go_wp2
                                    have n0_ := Aside0.mk (Kd.S_drew HO_9.out)
                                    have n1_ := Aside0.mk (Kd.S_drew HO_10.out)
                                    have n2_ := Aside0.mk (Kd.R_drew HO_11.out)
                                    have n3_ := Aside0.mk (Kd.R_drew HL242_3.out)
                                    have n4_ := Aside0.mk (Kd.R_drew HL242_4.out)
                                    have n5_ := Aside0.mk (Kd.R_drew HL242_5.out)
                                    have n6_ := Aside0.mk (Kd.C_drew HR242_3.out)
                                    have n7_ := Aside0.mk (Kd.C_drew HR242_4.out)
                                    have n8_ := Aside0.mk (Kd.C_drew HR242_5.out)
                                    have n9_ := Aside0.mk (below_drew1 HB.out)
                                    clear HO_9
                                    clear HO_10
                                    clear HO_11
                                    clear HL242_3
                                    clear HL242_4
                                    clear HL242_5
                                    clear HR242_3
                                    clear HR242_4
                                    clear HR242_5
                                    clear HB
                                    have HO_9 := n0_
                                    have HO_10 := n1_
                                    have HO_11 := n2_
                                    have HL242_3 := n3_
                                    have HL242_4 := n4_
                                    have HL242_5 := n5_
                                    have HR242_3 := n6_
                                    have HR242_4 := n7_
                                    have HR242_5 := n8_
                                    have HB := n9_
                                    clear n0_ n1_ n2_ n3_ n4_ n5_ n6_ n7_ n8_ n9_
                                    obtain ⟨Ao53, co53, eo53⟩ := Kd.R_slice HO_11.out
                                    (first | subst eo53 | (injection eo53 with f1_ f2_ f3_; have f4_ := f1_.symm; have f5_ := f3_.symm; clear f1_ f2_ f3_; subst f4_; subst f5_))
                                    have p243 : 0 ≤ (x12_2 : Int) := of_decide_eq_true (by first | (with_reducible assumption) | assumption)
                                    have q243 : x12_2 < (t231.length : Int) := of_decide_eq_true (by first | (with_reducible assumption) | assumption)
                                    obtain ⟨ad243, e243, hx243_0⟩ := Kd.at_int (Kd.R_reads' HO_11.out).2.2 x12_2 p243 q243
                                    cases e243
                                    replace p243 := eq_true p243
                                    replace q243 := eq_true q243
                                    have p244 : 0 ≤ (x13_2 : Int) := of_decide_eq_true (by first | (with_reducible assumption) | assumption)
                                    have q244 : x13_2 < (t226.length : Int) := of_decide_eq_true (by first | (with_reducible assumption) | assumption)
                                    try (obtain ⟨Az_, cz_, ez_⟩ := Kd.S_slice HO_10.out; subst ez_)
                                    obtain ⟨ad244, A244_3, c244_3, A244_4, c244_4, A244_5, c244_5, e244, hx244_0, hx244_1, hx244_2, hx244_3, hx244_4, hx244_5, hl244_3, hi244_3, hl244_4, hi244_4, hl244_5, hi244_5⟩ := at_T33 (Kd.S_reads' HO_10.out).2.2 x13_2 p244 q244
                                    obtain rfl : ad242 = ad244 := (by injection e244)
                                    obtain ⟨ce244, hce244, hMe244, hcc244⟩ := Kd.S_get HO_10.out z33 x13_2 p244 (by first | exact q244 | exact of_decide_eq_true (by first | (with_reducible assumption) | assumption) | (have e_ := (Kd.S_reads' HO_10.out).1; omega))
                                    obtain ⟨ve244_3, ve244_4, ve244_5, rfl, ge244_3, ge244_4, ge244_5⟩ := k33_openM hMe244
                                    have hv244_3 := hcc244 3 _ rfl
                                    rw [add_field _ _ 3 (by omega)] at hv244_3
                                    replace hv244_3 := Option.some.inj (hv244_3.symm.trans hx244_3)
                                    rw [hv244_3] at ge244_3
                                    have HL244_3 := Aside0.mk (show Kd.R (Kd.int .u64) 47 _ _ _ _ ((rd_T33 t226 x13_2).f2.f1) from ge244_3)
                                    clear hv244_3 ge244_3
                                    have hv244_4 := hcc244 4 _ rfl
                                    rw [add_field _ _ 4 (by omega)] at hv244_4
                                    replace hv244_4 := Option.some.inj (hv244_4.symm.trans hx244_4)
                                    rw [hv244_4] at ge244_4
                                    have HL244_4 := Aside0.mk (show Kd.R (Kd.int .u8) 5 _ _ _ _ ((rd_T33 t226 x13_2).f2.f2) from ge244_4)
                                    clear hv244_4 ge244_4
                                    have hv244_5 := hcc244 5 _ rfl
                                    rw [add_field _ _ 5 (by omega)] at hv244_5
                                    replace hv244_5 := Option.some.inj (hv244_5.symm.trans hx244_5)
                                    rw [hv244_5] at ge244_5
                                    have HL244_5 := Aside0.mk (show Kd.R (Kd.int .u64) 47 _ _ _ _ ((rd_T33 t226 x13_2).f2.f3) from ge244_5)
                                    clear hv244_5 ge244_5
                                    clear hcc244 hce244
                                    have HR244_3 := Aside0.mk hi244_3
                                    have HC244_3 := Aside0.mk hl244_3
                                    clear hi244_3 hl244_3
                                    have HR244_4 := Aside0.mk hi244_4
                                    have HC244_4 := Aside0.mk hl244_4
                                    clear hi244_4 hl244_4
                                    have HR244_5 := Aside0.mk hi244_5
                                    have HC244_5 := Aside0.mk hl244_5
                                    clear hi244_5 hl244_5
                                    replace p244 := eq_true p244
                                    replace q244 := eq_true q244
                                    (try (have ea_ := Option.some.inj (HS3_.symm.trans hx244_3); injection ea_ with ea_ en_ ec_; subst ea_; subst ec_; clear en_))
                                    (try (have ea_ := Option.some.inj (HS4_.symm.trans hx244_4); injection ea_ with ea_ en_ ec_; subst ea_; subst ec_; clear en_))
                                    (try (have ea_ := Option.some.inj (HS5_.symm.trans hx244_5); injection ea_ with ea_ en_ ec_; subst ea_; subst ec_; clear en_))
                                    refine start_ (n := 16) (S := fun w' => w'.cell? (ad243.add (x12_2).toNat) = some (.int .i64 (rd t231 x12_2)) ∧ w'.cell? (ad242.add ((x13_2).toNat * 6)) = some (.int .i64 ((rd_T33 t226 x13_2).f0)) ∧ w'.cell? ⟨(ad242.add ((x13_2).toNat * 6)).block, (ad242.add ((x13_2).toNat * 6)).off + 1, none⟩ = some (.int .i64 ((rd_T33 t226 x13_2).f1)) ∧ w'.cell? ⟨(ad242.add ((x13_2).toNat * 6)).block, (ad242.add ((x13_2).toNat * 6)).off + 2, none⟩ = some (.int .i64 ((rd_T33 t226 x13_2).f2.f0)) ∧ w'.cell? ⟨(ad242.add ((x13_2).toNat * 6)).block, (ad242.add ((x13_2).toNat * 6)).off + 3, none⟩ = some (.slice A244_3 ((rd_T33 t226 x13_2).f2.f1).length c244_3) ∧ w'.cell? ⟨(ad242.add ((x13_2).toNat * 6)).block, (ad242.add ((x13_2).toNat * 6)).off + 4, none⟩ = some (.slice A244_4 ((rd_T33 t226 x13_2).f2.f2).length c244_4) ∧ w'.cell? ⟨(ad242.add ((x13_2).toNat * 6)).block, (ad242.add ((x13_2).toNat * 6)).off + 5, none⟩ = some (.slice A244_5 ((rd_T33 t226 x13_2).f2.f3).length c244_5)) (ds := []) #[false, false, false, false, false, false, false, false, false, false, false, false, false, false, false, false] (by kernel_rfl) rfl rfl ⟨hx243_0, hx244_0, hx244_1, hx244_2, hx244_3, hx244_4, hx244_5⟩ (fun hHeld => ?_); refine with_tabW logbooklaw17_ScanObjects.tab14 logbooklaw17_ScanObjects.bits14 (fun HT_ HW_ => ?_)
                                    generalize wc.drew = w52 at HO_9 HO_10 HO_11 HL242_3 HL242_4 HL242_5 HR242_3 HR242_4 HR242_5 HB HL244_3 HL244_4 HL244_5 HR244_3 HR244_4 HR244_5 hx243_0 hx244_0 hx244_1 hx244_2 hx244_3 hx244_4 hx244_5 hHeld ⊢
                                    refine pure_ (i := 0) (N := some 99) (v := ?_) (a' := ?_) #[true, false, false, false, false, false, false, false, false, false, false, false, false, false, false, false] rfl rfl (any_of HT_.out (by kernel_rfl)) (fun _ _ _ h => h) (Or.inl ⟨by rfl, ?_⟩) ?_ ?_
                                    rotate_left
                                    · intro w'
                                      go_simp
                                      with_reducible rfl
                                    rotate_left
                                    · simp only [Act.put, List.setIfInBounds_toArray, List.set_cons_zero, List.set_cons_succ, i64_w, i32_w]
                                      rfl
                                    refine pure_ (i := 1) (N := some 100) (v := ?_) (a' := ?_) #[true, true, false, false, false, false, false, false, false, false, false, false, false, false, false, false] rfl rfl (any_of HT_.out (by kernel_rfl)) (fun _ _ _ h => h) (Or.inl ⟨by rfl, ?_⟩) ?_ ?_
                                    rotate_left
                                    · intro w'
                                      go_simp
                                      with_reducible rfl
                                    rotate_left
                                    · simp only [Act.put, List.setIfInBounds_toArray, List.set_cons_zero, List.set_cons_succ, i64_w, i32_w]
                                      rfl
                                    refine pure_ (i := 2) (N := some 101) (v := ?_) (a' := ?_) #[true, true, true, false, false, false, false, false, false, false, false, false, false, false, false, false] rfl rfl (any_of HT_.out (by kernel_rfl)) (fun _ _ _ h => h) (Or.inl ⟨by rfl, ?_⟩) ?_ ?_
                                    rotate_left
                                    · intro w'
                                      go_simp
                                      with_reducible rfl
                                    rotate_left
                                    · simp only [Act.put, List.setIfInBounds_toArray, List.set_cons_zero, List.set_cons_succ, i64_w, i32_w]
                                      rfl
                                    refine pure_ (i := 3) (N := some 102) (v := ?_) (a' := ?_) #[true, true, true, true, false, false, false, false, false, false, false, false, false, false, false, false] rfl rfl (any_of HT_.out (by kernel_rfl)) (fun _ _ _ h => h) (Or.inl ⟨by rfl, ?_⟩) ?_ ?_
                                    rotate_left
                                    · intro w'
                                      go_simp
                                      with_reducible rfl
                                    rotate_left
                                    · simp only [Act.put, List.setIfInBounds_toArray, List.set_cons_zero, List.set_cons_succ, i64_w, i32_w]
                                      rfl
                                    refine pure_ (i := 4) (N := some 103) (v := ?_) (a' := ?_) #[true, true, true, true, true, false, false, false, false, false, false, false, false, false, false, false] rfl rfl (any_of HT_.out (by kernel_rfl)) (fun _ _ _ h => h) (Or.inl ⟨by rfl, ?_⟩) ?_ ?_
                                    rotate_left
                                    · intro w'
                                      go_simp
                                      with_reducible rfl
                                    rotate_left
                                    · simp only [Act.put, List.setIfInBounds_toArray, List.set_cons_zero, List.set_cons_succ, i64_w, i32_w]
                                      rfl
                                    refine pure_ (i := 5) (N := some 104) (v := ?_) (a' := ?_) #[true, true, true, true, true, true, false, false, false, false, false, false, false, false, false, false] rfl rfl (any_of HT_.out (by kernel_rfl)) (fun _ _ _ h => h) (Or.inl ⟨by rfl, ?_⟩) ?_ ?_
                                    rotate_left
                                    · intro w'
                                      go_simp
                                      with_reducible rfl
                                    rotate_left
                                    · simp only [Act.put, List.setIfInBounds_toArray, List.set_cons_zero, List.set_cons_succ, i64_w, i32_w]
                                      rfl
                                    refine pure_ (i := 6) (N := some 105) (v := ?_) (a' := ?_) #[true, true, true, true, true, true, true, false, false, false, false, false, false, false, false, false] rfl rfl (any_of HT_.out (by kernel_rfl)) (fun _ _ _ h => h) (Or.inl ⟨by rfl, ?_⟩) ?_ ?_
                                    rotate_left
                                    · intro w'
                                      go_simp
                                      with_reducible rfl
                                    rotate_left
                                    · simp only [Act.put, List.setIfInBounds_toArray, List.set_cons_zero, List.set_cons_succ, i64_w, i32_w]
                                      rfl
                                    refine pure_ (i := 7) (N := some 106) (v := ?_) (a' := ?_) #[true, true, true, true, true, true, true, true, false, false, false, false, false, false, false, false] rfl rfl (any_of HT_.out (by kernel_rfl)) (fun _ _ _ h => h) (Or.inl ⟨by rfl, ?_⟩) ?_ ?_
                                    rotate_left
                                    · intro w'
                                      go_simp
                                      with_reducible rfl
                                    rotate_left
                                    · simp only [Act.put, List.setIfInBounds_toArray, List.set_cons_zero, List.set_cons_succ, i64_w, i32_w]
                                      rfl
                                    refine pure_ (i := 9) (N := some 108) (v := ?_) (a' := ?_) #[true, true, true, true, true, true, true, true, false, true, false, false, false, false, false, false] rfl rfl (any_of HT_.out (by kernel_rfl)) (fun _ _ _ h => h) (Or.inl ⟨by rfl, ?_⟩) ?_ ?_
                                    rotate_left
                                    · intro w'
                                      go_simp
                                      with_reducible rfl
                                    rotate_left
                                    · simp only [Act.put, List.setIfInBounds_toArray, List.set_cons_zero, List.set_cons_succ, i64_w, i32_w]
                                      rfl
                                    refine pure_ (i := 10) (N := some 109) (v := ?_) (a' := ?_) #[true, true, true, true, true, true, true, true, false, true, true, false, false, false, false, false] rfl rfl (any_of HT_.out (by kernel_rfl)) (fun _ _ _ h => h) (Or.inl ⟨by rfl, ?_⟩) ?_ ?_
                                    rotate_left
                                    · intro w'
                                      go_simp
                                      with_reducible rfl
                                    rotate_left
                                    · simp only [Act.put, List.setIfInBounds_toArray, List.set_cons_zero, List.set_cons_succ, i64_w, i32_w]
                                      rfl
                                    refine pure_ (i := 11) (N := some 110) (v := ?_) (a' := ?_) #[true, true, true, true, true, true, true, true, false, true, true, true, false, false, false, false] rfl rfl (any_of HT_.out (by kernel_rfl)) (fun _ _ _ h => h) (Or.inl ⟨by rfl, ?_⟩) ?_ ?_
                                    rotate_left
                                    · intro w'
                                      go_simp
                                      with_reducible rfl
                                    rotate_left
                                    · simp only [Act.put, List.setIfInBounds_toArray, List.set_cons_zero, List.set_cons_succ, i64_w, i32_w]
                                      rfl
                                    refine pure_ (i := 12) (N := some 111) (v := ?_) (a' := ?_) #[true, true, true, true, true, true, true, true, false, true, true, true, true, false, false, false] rfl rfl (any_of HT_.out (by kernel_rfl)) (fun _ _ _ h => h) (Or.inl ⟨by rfl, ?_⟩) ?_ ?_
                                    rotate_left
                                    · intro w'
                                      go_simp
                                      with_reducible rfl
                                    rotate_left
                                    · simp only [Act.put, List.setIfInBounds_toArray, List.set_cons_zero, List.set_cons_succ, i64_w, i32_w]
                                      rfl
                                    refine take_ (i := 8) (N := some 107) (v := ?_) (a' := ?_) #[true, true, true, true, true, true, true, true, true, true, true, true, true, false, false, false] rfl rfl (take_ofW HT_.out HW_.out (by kernel_rfl)) (fun _ _ _ h => h) (Or.inl ⟨by rfl, ?_⟩) hHeld ?_ ?_
                                    rotate_left
                                    · rintro w' ⟨s0, s1, s2, s3, s4, s5, s6⟩
                                      go_simp
                                      with_reducible rfl
                                    rotate_left
                                    · simp only [Act.put, List.setIfInBounds_toArray, List.set_cons_zero, List.set_cons_succ, i64_w, i32_w]
                                      rfl
                                    refine take_ (i := 13) (N := some 112) (v := ?_) (a' := ?_) #[true, true, true, true, true, true, true, true, true, true, true, true, true, true, false, false] rfl rfl (take_ofW HT_.out HW_.out (by kernel_rfl)) (fun _ _ _ h => h) (Or.inl ⟨by rfl, ?_⟩) hHeld ?_ ?_
                                    rotate_left
                                    · rintro w' ⟨s0, s1, s2, s3, s4, s5, s6⟩
                                      go_simp
                                      with_reducible rfl
                                    rotate_left
                                    · simp only [Act.put, List.setIfInBounds_toArray, List.set_cons_zero, List.set_cons_succ, i64_w, i32_w]
                                      rfl
                                    refine pure_ (i := 14) (N := some 113) (v := ?_) (a' := ?_) #[true, true, true, true, true, true, true, true, true, true, true, true, true, true, true, false] rfl rfl (any_of HT_.out (by kernel_rfl)) (fun _ _ _ h => h) (Or.inl ⟨by rfl, ?_⟩) ?_ ?_
                                    rotate_left
                                    · intro w'
                                      go_simp
                                      with_reducible rfl
                                    rotate_left
                                    · simp only [Act.put, List.setIfInBounds_toArray, List.set_cons_zero, List.set_cons_succ, i64_w, i32_w]
                                      rfl
                                    refine pure_ (i := 15) (N := some 114) (v := ?_) (a' := ?_) #[true, true, true, true, true, true, true, true, true, true, true, true, true, true, true, true] rfl rfl (any_of HT_.out (by kernel_rfl)) (fun _ _ _ h => h) (Or.inl ⟨by rfl, ?_⟩) ?_ ?_
                                    rotate_left
                                    · intro w'
                                      go_simp
                                      with_reducible rfl
                                    rotate_left
                                    · simp only [Act.put, List.setIfInBounds_toArray, List.set_cons_zero, List.set_cons_succ, i64_w, i32_w]
                                      rfl
                                    refine done_ (done_of HT_.out (by kernel_rfl)) ?_
                                    try go_wp2
                                    go_roundg kj25
                                    case measure => have := HJ9.out; have := HK2.out; have := HJ25.out; omega
                                    case rel => exact ⟨(wrap64 (x12_2 + 1)), (wrap64 (x13_2 + 1)), (by first | rfl | (simp; done) | (simp [*]; done) | exact isEmpty_bne _), (by first | rfl | (simp; done) | (simp [*]; done) | exact isEmpty_bne _), H', ⟨by have := HJ9.out; have := HK2.out; have := HJ25.out; omega⟩, ⟨by (with_reducible repeat (first | apply Kd.S_alloc | apply Kd.S_drewN | apply Kd.S_drew)); exact HO_9.out⟩, ⟨by (with_reducible repeat (first | apply Kd.S_alloc | apply Kd.S_drewN | apply Kd.S_drew)); exact HO_10.out⟩, ⟨by (with_reducible repeat (first | apply Kd.R_alloc | apply Kd.R_drewN | apply Kd.R_drew)); exact HO_11.out⟩, ⟨by repeat (first | (with_reducible first | exact HB.out | apply below_alloc | apply pw_below_drewN | apply below_drew1) | exact HB.out)⟩⟩
                                  · rw [if_neg c50] at H
                                    have c50b0 : ((rd t231 x12_2) == ((rd_T33 t226 x13_2).f0)) = false := beq_eq_false_iff_ne.mpr c50
                                    have c50b1 : ((rd t231 x12_2) != ((rd_T33 t226 x13_2).f0)) = true := bne_iff_ne.mpr c50
                                    obtain rfl := Option.some.inj H
                                    obtain ⟨Ao54, co54, eo54⟩ := Kd.S_slice HO_10.out
                                    subst eo54
                                    have p242 : 0 ≤ (x13_2 : Int) := of_decide_eq_true (by first | (with_reducible assumption) | assumption)
                                    have q242 : x13_2 < (t226.length : Int) := of_decide_eq_true (by first | (with_reducible assumption) | assumption)
                                    try (obtain ⟨Az_, cz_, ez_⟩ := Kd.S_slice HO_10.out; subst ez_)
                                    obtain ⟨ad242, A242_3, c242_3, A242_4, c242_4, A242_5, c242_5, e242, hx242_0, hx242_1, hx242_2, hx242_3, hx242_4, hx242_5, hl242_3, hi242_3, hl242_4, hi242_4, hl242_5, hi242_5⟩ := at_T33 (Kd.S_reads' HO_10.out).2.2 x13_2 p242 q242
                                    cases e242
                                    obtain ⟨ce242, hce242, hMe242, hcc242⟩ := Kd.S_get HO_10.out z33 x13_2 p242 (by first | exact q242 | exact of_decide_eq_true (by first | (with_reducible assumption) | assumption) | (have e_ := (Kd.S_reads' HO_10.out).1; omega))
                                    obtain ⟨ve242_3, ve242_4, ve242_5, rfl, ge242_3, ge242_4, ge242_5⟩ := k33_openM hMe242
                                    have hv242_3 := hcc242 3 _ rfl
                                    rw [add_field _ _ 3 (by omega)] at hv242_3
                                    replace hv242_3 := Option.some.inj (hv242_3.symm.trans hx242_3)
                                    rw [hv242_3] at ge242_3
                                    have HL242_3 := Aside0.mk (show Kd.R (Kd.int .u64) 47 _ _ _ _ ((rd_T33 t226 x13_2).f2.f1) from ge242_3)
                                    clear hv242_3 ge242_3
                                    have hv242_4 := hcc242 4 _ rfl
                                    rw [add_field _ _ 4 (by omega)] at hv242_4
                                    replace hv242_4 := Option.some.inj (hv242_4.symm.trans hx242_4)
                                    rw [hv242_4] at ge242_4
                                    have HL242_4 := Aside0.mk (show Kd.R (Kd.int .u8) 5 _ _ _ _ ((rd_T33 t226 x13_2).f2.f2) from ge242_4)
                                    clear hv242_4 ge242_4
                                    have hv242_5 := hcc242 5 _ rfl
                                    rw [add_field _ _ 5 (by omega)] at hv242_5
                                    replace hv242_5 := Option.some.inj (hv242_5.symm.trans hx242_5)
                                    rw [hv242_5] at ge242_5
                                    have HL242_5 := Aside0.mk (show Kd.R (Kd.int .u64) 47 _ _ _ _ ((rd_T33 t226 x13_2).f2.f3) from ge242_5)
                                    clear hv242_5 ge242_5
                                    clear hcc242 hce242
                                    have HR242_3 := Aside0.mk hi242_3
                                    have HC242_3 := Aside0.mk hl242_3
                                    clear hi242_3 hl242_3
                                    have HR242_4 := Aside0.mk hi242_4
                                    have HC242_4 := Aside0.mk hl242_4
                                    clear hi242_4 hl242_4
                                    have HR242_5 := Aside0.mk hi242_5
                                    have HC242_5 := Aside0.mk hl242_5
                                    clear hi242_5 hl242_5
                                    replace p242 := eq_true p242
                                    replace q242 := eq_true q242
                                    (try (have ea_ := Option.some.inj (HS3_.symm.trans hx242_3); injection ea_ with ea_ en_ ec_; subst ea_; subst ec_; clear en_))
                                    (try (have ea_ := Option.some.inj (HS4_.symm.trans hx242_4); injection ea_ with ea_ en_ ec_; subst ea_; subst ec_; clear en_))
                                    (try (have ea_ := Option.some.inj (HS5_.symm.trans hx242_5); injection ea_ with ea_ en_ ec_; subst ea_; subst ec_; clear en_))
                                    try go_wp2
                                    have n0_ := Aside0.mk (Kd.S_drew HO_9.out)
                                    have n1_ := Aside0.mk (Kd.S_drew HO_10.out)
                                    have n2_ := Aside0.mk (Kd.R_drew HO_11.out)
                                    have n3_ := Aside0.mk (Kd.R_drew HL242_3.out)
                                    have n4_ := Aside0.mk (Kd.R_drew HL242_4.out)
                                    have n5_ := Aside0.mk (Kd.R_drew HL242_5.out)
                                    have n6_ := Aside0.mk (Kd.C_drew HR242_3.out)
                                    have n7_ := Aside0.mk (Kd.C_drew HR242_4.out)
                                    have n8_ := Aside0.mk (Kd.C_drew HR242_5.out)
                                    have n9_ := Aside0.mk (below_drew1 HB.out)
                                    clear HO_9
                                    clear HO_10
                                    clear HO_11
                                    clear HL242_3
                                    clear HL242_4
                                    clear HL242_5
                                    clear HR242_3
                                    clear HR242_4
                                    clear HR242_5
                                    clear HB
                                    have HO_9 := n0_
                                    have HO_10 := n1_
                                    have HO_11 := n2_
                                    have HL242_3 := n3_
                                    have HL242_4 := n4_
                                    have HL242_5 := n5_
                                    have HR242_3 := n6_
                                    have HR242_4 := n7_
                                    have HR242_5 := n8_
                                    have HB := n9_
                                    clear n0_ n1_ n2_ n3_ n4_ n5_ n6_ n7_ n8_ n9_
                                    obtain ⟨Ao56, co56, eo56⟩ := Kd.R_slice HO_11.out
                                    (first | subst eo56 | (injection eo56 with f1_ f2_ f3_; have f4_ := f1_.symm; have f5_ := f3_.symm; clear f1_ f2_ f3_; subst f4_; subst f5_))
                                    have p243 : 0 ≤ (x12_2 : Int) := of_decide_eq_true (by first | (with_reducible assumption) | assumption)
                                    have q243 : x12_2 < (t231.length : Int) := of_decide_eq_true (by first | (with_reducible assumption) | assumption)
                                    obtain ⟨ad243, e243, hx243_0⟩ := Kd.at_int (Kd.R_reads' HO_11.out).2.2 x12_2 p243 q243
                                    cases e243
                                    replace p243 := eq_true p243
                                    replace q243 := eq_true q243
                                    have p244 : 0 ≤ (x13_2 : Int) := of_decide_eq_true (by first | (with_reducible assumption) | assumption)
                                    have q244 : x13_2 < (t226.length : Int) := of_decide_eq_true (by first | (with_reducible assumption) | assumption)
                                    try (obtain ⟨Az_, cz_, ez_⟩ := Kd.S_slice HO_10.out; subst ez_)
                                    obtain ⟨ad244, A244_3, c244_3, A244_4, c244_4, A244_5, c244_5, e244, hx244_0, hx244_1, hx244_2, hx244_3, hx244_4, hx244_5, hl244_3, hi244_3, hl244_4, hi244_4, hl244_5, hi244_5⟩ := at_T33 (Kd.S_reads' HO_10.out).2.2 x13_2 p244 q244
                                    obtain rfl : ad242 = ad244 := (by injection e244)
                                    obtain ⟨ce244, hce244, hMe244, hcc244⟩ := Kd.S_get HO_10.out z33 x13_2 p244 (by first | exact q244 | exact of_decide_eq_true (by first | (with_reducible assumption) | assumption) | (have e_ := (Kd.S_reads' HO_10.out).1; omega))
                                    obtain ⟨ve244_3, ve244_4, ve244_5, rfl, ge244_3, ge244_4, ge244_5⟩ := k33_openM hMe244
                                    have hv244_3 := hcc244 3 _ rfl
                                    rw [add_field _ _ 3 (by omega)] at hv244_3
                                    replace hv244_3 := Option.some.inj (hv244_3.symm.trans hx244_3)
                                    rw [hv244_3] at ge244_3
                                    have HL244_3 := Aside0.mk (show Kd.R (Kd.int .u64) 47 _ _ _ _ ((rd_T33 t226 x13_2).f2.f1) from ge244_3)
                                    clear hv244_3 ge244_3
                                    have hv244_4 := hcc244 4 _ rfl
                                    rw [add_field _ _ 4 (by omega)] at hv244_4
                                    replace hv244_4 := Option.some.inj (hv244_4.symm.trans hx244_4)
                                    rw [hv244_4] at ge244_4
                                    have HL244_4 := Aside0.mk (show Kd.R (Kd.int .u8) 5 _ _ _ _ ((rd_T33 t226 x13_2).f2.f2) from ge244_4)
                                    clear hv244_4 ge244_4
                                    have hv244_5 := hcc244 5 _ rfl
                                    rw [add_field _ _ 5 (by omega)] at hv244_5
                                    replace hv244_5 := Option.some.inj (hv244_5.symm.trans hx244_5)
                                    rw [hv244_5] at ge244_5
                                    have HL244_5 := Aside0.mk (show Kd.R (Kd.int .u64) 47 _ _ _ _ ((rd_T33 t226 x13_2).f2.f3) from ge244_5)
                                    clear hv244_5 ge244_5
                                    clear hcc244 hce244
                                    have HR244_3 := Aside0.mk hi244_3
                                    have HC244_3 := Aside0.mk hl244_3
                                    clear hi244_3 hl244_3
                                    have HR244_4 := Aside0.mk hi244_4
                                    have HC244_4 := Aside0.mk hl244_4
                                    clear hi244_4 hl244_4
                                    have HR244_5 := Aside0.mk hi244_5
                                    have HC244_5 := Aside0.mk hl244_5
                                    clear hi244_5 hl244_5
                                    replace p244 := eq_true p244
                                    replace q244 := eq_true q244
                                    (try (have ea_ := Option.some.inj (HS3_.symm.trans hx244_3); injection ea_ with ea_ en_ ec_; subst ea_; subst ec_; clear en_))
                                    (try (have ea_ := Option.some.inj (HS4_.symm.trans hx244_4); injection ea_ with ea_ en_ ec_; subst ea_; subst ec_; clear en_))
                                    (try (have ea_ := Option.some.inj (HS5_.symm.trans hx244_5); injection ea_ with ea_ en_ ec_; subst ea_; subst ec_; clear en_))
                                    refine start_ (n := 16) (S := fun w' => w'.cell? (ad243.add (x12_2).toNat) = some (.int .i64 (rd t231 x12_2)) ∧ w'.cell? (ad242.add ((x13_2).toNat * 6)) = some (.int .i64 ((rd_T33 t226 x13_2).f0)) ∧ w'.cell? ⟨(ad242.add ((x13_2).toNat * 6)).block, (ad242.add ((x13_2).toNat * 6)).off + 1, none⟩ = some (.int .i64 ((rd_T33 t226 x13_2).f1)) ∧ w'.cell? ⟨(ad242.add ((x13_2).toNat * 6)).block, (ad242.add ((x13_2).toNat * 6)).off + 2, none⟩ = some (.int .i64 ((rd_T33 t226 x13_2).f2.f0)) ∧ w'.cell? ⟨(ad242.add ((x13_2).toNat * 6)).block, (ad242.add ((x13_2).toNat * 6)).off + 3, none⟩ = some (.slice A244_3 ((rd_T33 t226 x13_2).f2.f1).length c244_3) ∧ w'.cell? ⟨(ad242.add ((x13_2).toNat * 6)).block, (ad242.add ((x13_2).toNat * 6)).off + 4, none⟩ = some (.slice A244_4 ((rd_T33 t226 x13_2).f2.f2).length c244_4) ∧ w'.cell? ⟨(ad242.add ((x13_2).toNat * 6)).block, (ad242.add ((x13_2).toNat * 6)).off + 5, none⟩ = some (.slice A244_5 ((rd_T33 t226 x13_2).f2.f3).length c244_5)) (ds := []) #[false, false, false, false, false, false, false, false, false, false, false, false, false, false, false, false] (by kernel_rfl) rfl rfl ⟨hx243_0, hx244_0, hx244_1, hx244_2, hx244_3, hx244_4, hx244_5⟩ (fun hHeld => ?_); refine with_tabW logbooklaw17_ScanObjects.tab14 logbooklaw17_ScanObjects.bits14 (fun HT_ HW_ => ?_)
                                    generalize wc.drew = w55 at HO_9 HO_10 HO_11 HL242_3 HL242_4 HL242_5 HR242_3 HR242_4 HR242_5 HB HL244_3 HL244_4 HL244_5 HR244_3 HR244_4 HR244_5 hx243_0 hx244_0 hx244_1 hx244_2 hx244_3 hx244_4 hx244_5 hHeld ⊢
                                    refine pure_ (i := 0) (N := some 99) (v := ?_) (a' := ?_) #[true, false, false, false, false, false, false, false, false, false, false, false, false, false, false, false] rfl rfl (any_of HT_.out (by kernel_rfl)) (fun _ _ _ h => h) (Or.inl ⟨by rfl, ?_⟩) ?_ ?_
                                    rotate_left
                                    · intro w'
                                      go_simp
                                      with_reducible rfl
                                    rotate_left
                                    · simp only [Act.put, List.setIfInBounds_toArray, List.set_cons_zero, List.set_cons_succ, i64_w, i32_w]
                                      rfl
                                    refine pure_ (i := 1) (N := some 100) (v := ?_) (a' := ?_) #[true, true, false, false, false, false, false, false, false, false, false, false, false, false, false, false] rfl rfl (any_of HT_.out (by kernel_rfl)) (fun _ _ _ h => h) (Or.inl ⟨by rfl, ?_⟩) ?_ ?_
                                    rotate_left
                                    · intro w'
                                      go_simp
                                      with_reducible rfl
                                    rotate_left
                                    · simp only [Act.put, List.setIfInBounds_toArray, List.set_cons_zero, List.set_cons_succ, i64_w, i32_w]
                                      rfl
                                    refine pure_ (i := 2) (N := some 101) (v := ?_) (a' := ?_) #[true, true, true, false, false, false, false, false, false, false, false, false, false, false, false, false] rfl rfl (any_of HT_.out (by kernel_rfl)) (fun _ _ _ h => h) (Or.inl ⟨by rfl, ?_⟩) ?_ ?_
                                    rotate_left
                                    · intro w'
                                      go_simp
                                      with_reducible rfl
                                    rotate_left
                                    · simp only [Act.put, List.setIfInBounds_toArray, List.set_cons_zero, List.set_cons_succ, i64_w, i32_w]
                                      rfl
                                    refine pure_ (i := 3) (N := some 102) (v := ?_) (a' := ?_) #[true, true, true, true, false, false, false, false, false, false, false, false, false, false, false, false] rfl rfl (any_of HT_.out (by kernel_rfl)) (fun _ _ _ h => h) (Or.inl ⟨by rfl, ?_⟩) ?_ ?_
                                    rotate_left
                                    · intro w'
                                      go_simp
                                      with_reducible rfl
                                    rotate_left
                                    · simp only [Act.put, List.setIfInBounds_toArray, List.set_cons_zero, List.set_cons_succ, i64_w, i32_w]
                                      rfl
                                    refine pure_ (i := 4) (N := some 103) (v := ?_) (a' := ?_) #[true, true, true, true, true, false, false, false, false, false, false, false, false, false, false, false] rfl rfl (any_of HT_.out (by kernel_rfl)) (fun _ _ _ h => h) (Or.inl ⟨by rfl, ?_⟩) ?_ ?_
                                    rotate_left
                                    · intro w'
                                      go_simp
                                      with_reducible rfl
                                    rotate_left
                                    · simp only [Act.put, List.setIfInBounds_toArray, List.set_cons_zero, List.set_cons_succ, i64_w, i32_w]
                                      rfl
                                    refine pure_ (i := 5) (N := some 104) (v := ?_) (a' := ?_) #[true, true, true, true, true, true, false, false, false, false, false, false, false, false, false, false] rfl rfl (any_of HT_.out (by kernel_rfl)) (fun _ _ _ h => h) (Or.inl ⟨by rfl, ?_⟩) ?_ ?_
                                    rotate_left
                                    · intro w'
                                      go_simp
                                      with_reducible rfl
                                    rotate_left
                                    · simp only [Act.put, List.setIfInBounds_toArray, List.set_cons_zero, List.set_cons_succ, i64_w, i32_w]
                                      rfl
                                    refine pure_ (i := 6) (N := some 105) (v := ?_) (a' := ?_) #[true, true, true, true, true, true, true, false, false, false, false, false, false, false, false, false] rfl rfl (any_of HT_.out (by kernel_rfl)) (fun _ _ _ h => h) (Or.inl ⟨by rfl, ?_⟩) ?_ ?_
                                    rotate_left
                                    · intro w'
                                      go_simp
                                      with_reducible rfl
                                    rotate_left
                                    · simp only [Act.put, List.setIfInBounds_toArray, List.set_cons_zero, List.set_cons_succ, i64_w, i32_w]
                                      rfl
                                    refine pure_ (i := 7) (N := some 106) (v := ?_) (a' := ?_) #[true, true, true, true, true, true, true, true, false, false, false, false, false, false, false, false] rfl rfl (any_of HT_.out (by kernel_rfl)) (fun _ _ _ h => h) (Or.inl ⟨by rfl, ?_⟩) ?_ ?_
                                    rotate_left
                                    · intro w'
                                      go_simp
                                      with_reducible rfl
                                    rotate_left
                                    · simp only [Act.put, List.setIfInBounds_toArray, List.set_cons_zero, List.set_cons_succ, i64_w, i32_w]
                                      rfl
                                    refine pure_ (i := 9) (N := some 108) (v := ?_) (a' := ?_) #[true, true, true, true, true, true, true, true, false, true, false, false, false, false, false, false] rfl rfl (any_of HT_.out (by kernel_rfl)) (fun _ _ _ h => h) (Or.inl ⟨by rfl, ?_⟩) ?_ ?_
                                    rotate_left
                                    · intro w'
                                      go_simp
                                      with_reducible rfl
                                    rotate_left
                                    · simp only [Act.put, List.setIfInBounds_toArray, List.set_cons_zero, List.set_cons_succ, i64_w, i32_w]
                                      rfl
                                    refine pure_ (i := 10) (N := some 109) (v := ?_) (a' := ?_) #[true, true, true, true, true, true, true, true, false, true, true, false, false, false, false, false] rfl rfl (any_of HT_.out (by kernel_rfl)) (fun _ _ _ h => h) (Or.inl ⟨by rfl, ?_⟩) ?_ ?_
                                    rotate_left
                                    · intro w'
                                      go_simp
                                      with_reducible rfl
                                    rotate_left
                                    · simp only [Act.put, List.setIfInBounds_toArray, List.set_cons_zero, List.set_cons_succ, i64_w, i32_w]
                                      rfl
                                    refine pure_ (i := 11) (N := some 110) (v := ?_) (a' := ?_) #[true, true, true, true, true, true, true, true, false, true, true, true, false, false, false, false] rfl rfl (any_of HT_.out (by kernel_rfl)) (fun _ _ _ h => h) (Or.inl ⟨by rfl, ?_⟩) ?_ ?_
                                    rotate_left
                                    · intro w'
                                      go_simp
                                      with_reducible rfl
                                    rotate_left
                                    · simp only [Act.put, List.setIfInBounds_toArray, List.set_cons_zero, List.set_cons_succ, i64_w, i32_w]
                                      rfl
                                    refine pure_ (i := 12) (N := some 111) (v := ?_) (a' := ?_) #[true, true, true, true, true, true, true, true, false, true, true, true, true, false, false, false] rfl rfl (any_of HT_.out (by kernel_rfl)) (fun _ _ _ h => h) (Or.inl ⟨by rfl, ?_⟩) ?_ ?_
                                    rotate_left
                                    · intro w'
                                      go_simp
                                      with_reducible rfl
                                    rotate_left
                                    · simp only [Act.put, List.setIfInBounds_toArray, List.set_cons_zero, List.set_cons_succ, i64_w, i32_w]
                                      rfl
                                    refine take_ (i := 8) (N := some 107) (v := ?_) (a' := ?_) #[true, true, true, true, true, true, true, true, true, true, true, true, true, false, false, false] rfl rfl (take_ofW HT_.out HW_.out (by kernel_rfl)) (fun _ _ _ h => h) (Or.inl ⟨by rfl, ?_⟩) hHeld ?_ ?_
                                    rotate_left
                                    · rintro w' ⟨s0, s1, s2, s3, s4, s5, s6⟩
                                      go_simp
                                      with_reducible rfl
                                    rotate_left
                                    · simp only [Act.put, List.setIfInBounds_toArray, List.set_cons_zero, List.set_cons_succ, i64_w, i32_w]
                                      rfl
                                    refine take_ (i := 13) (N := some 112) (v := ?_) (a' := ?_) #[true, true, true, true, true, true, true, true, true, true, true, true, true, true, false, false] rfl rfl (take_ofW HT_.out HW_.out (by kernel_rfl)) (fun _ _ _ h => h) (Or.inl ⟨by rfl, ?_⟩) hHeld ?_ ?_
                                    rotate_left
                                    · rintro w' ⟨s0, s1, s2, s3, s4, s5, s6⟩
                                      go_simp
                                      with_reducible rfl
                                    rotate_left
                                    · simp only [Act.put, List.setIfInBounds_toArray, List.set_cons_zero, List.set_cons_succ, i64_w, i32_w]
                                      rfl
                                    refine pure_ (i := 14) (N := some 113) (v := ?_) (a' := ?_) #[true, true, true, true, true, true, true, true, true, true, true, true, true, true, true, false] rfl rfl (any_of HT_.out (by kernel_rfl)) (fun _ _ _ h => h) (Or.inl ⟨by rfl, ?_⟩) ?_ ?_
                                    rotate_left
                                    · intro w'
                                      go_simp
                                      with_reducible rfl
                                    rotate_left
                                    · simp only [Act.put, List.setIfInBounds_toArray, List.set_cons_zero, List.set_cons_succ, i64_w, i32_w]
                                      rfl
                                    refine pure_ (i := 15) (N := some 114) (v := ?_) (a' := ?_) #[true, true, true, true, true, true, true, true, true, true, true, true, true, true, true, true] rfl rfl (any_of HT_.out (by kernel_rfl)) (fun _ _ _ h => h) (Or.inl ⟨by rfl, ?_⟩) ?_ ?_
                                    rotate_left
                                    · intro w'
                                      go_simp
                                      with_reducible rfl
                                    rotate_left
                                    · simp only [Act.put, List.setIfInBounds_toArray, List.set_cons_zero, List.set_cons_succ, i64_w, i32_w]
                                      rfl
                                    refine done_ (done_of HT_.out (by kernel_rfl)) ?_
                                    try go_wp2
                                    go_ret
                                    exact ⟨by first | rfl | (simp [errW_none, errW_some] <;> rfl) | (simp [*, errW_none, errW_some] <;> rfl), by repeat (first | (with_reducible first | exact HB.out | apply below_alloc | apply pw_below_drewN | apply below_drew1) | exact HB.out)⟩
                                · rw [if_neg c49] at H
                                  exact absurd H (by simp)
                              · rw [if_neg c48] at H
                                exact absurd H (by simp)
                          · rw [if_neg c43] at H
                            have c43b0 : (((rd_T33 t226 x13_2).f2.f0) == a3) = false := beq_eq_false_iff_ne.mpr c43
                            have c43b1 : (((rd_T33 t226 x13_2).f2.f0) != a3) = true := bne_iff_ne.mpr c43
                            have H' := Aside0.mk H
                            clear H
                            obtain ⟨Ao57, co57, eo57⟩ := Kd.S_slice HO_10.out
                            subst eo57
                            have p242 : 0 ≤ (x13_2 : Int) := of_decide_eq_true (by first | (with_reducible assumption) | assumption)
                            have q242 : x13_2 < (t226.length : Int) := of_decide_eq_true (by first | (with_reducible assumption) | assumption)
                            try (obtain ⟨Az_, cz_, ez_⟩ := Kd.S_slice HO_10.out; subst ez_)
                            obtain ⟨ad242, A242_3, c242_3, A242_4, c242_4, A242_5, c242_5, e242, hx242_0, hx242_1, hx242_2, hx242_3, hx242_4, hx242_5, hl242_3, hi242_3, hl242_4, hi242_4, hl242_5, hi242_5⟩ := at_T33 (Kd.S_reads' HO_10.out).2.2 x13_2 p242 q242
                            cases e242
                            obtain ⟨ce242, hce242, hMe242, hcc242⟩ := Kd.S_get HO_10.out z33 x13_2 p242 (by first | exact q242 | exact of_decide_eq_true (by first | (with_reducible assumption) | assumption) | (have e_ := (Kd.S_reads' HO_10.out).1; omega))
                            obtain ⟨ve242_3, ve242_4, ve242_5, rfl, ge242_3, ge242_4, ge242_5⟩ := k33_openM hMe242
                            have hv242_3 := hcc242 3 _ rfl
                            rw [add_field _ _ 3 (by omega)] at hv242_3
                            replace hv242_3 := Option.some.inj (hv242_3.symm.trans hx242_3)
                            rw [hv242_3] at ge242_3
                            have HL242_3 := Aside0.mk (show Kd.R (Kd.int .u64) 47 _ _ _ _ ((rd_T33 t226 x13_2).f2.f1) from ge242_3)
                            clear hv242_3 ge242_3
                            have hv242_4 := hcc242 4 _ rfl
                            rw [add_field _ _ 4 (by omega)] at hv242_4
                            replace hv242_4 := Option.some.inj (hv242_4.symm.trans hx242_4)
                            rw [hv242_4] at ge242_4
                            have HL242_4 := Aside0.mk (show Kd.R (Kd.int .u8) 5 _ _ _ _ ((rd_T33 t226 x13_2).f2.f2) from ge242_4)
                            clear hv242_4 ge242_4
                            have hv242_5 := hcc242 5 _ rfl
                            rw [add_field _ _ 5 (by omega)] at hv242_5
                            replace hv242_5 := Option.some.inj (hv242_5.symm.trans hx242_5)
                            rw [hv242_5] at ge242_5
                            have HL242_5 := Aside0.mk (show Kd.R (Kd.int .u64) 47 _ _ _ _ ((rd_T33 t226 x13_2).f2.f3) from ge242_5)
                            clear hv242_5 ge242_5
                            clear hcc242 hce242
                            have HR242_3 := Aside0.mk hi242_3
                            have HC242_3 := Aside0.mk hl242_3
                            clear hi242_3 hl242_3
                            have HR242_4 := Aside0.mk hi242_4
                            have HC242_4 := Aside0.mk hl242_4
                            clear hi242_4 hl242_4
                            have HR242_5 := Aside0.mk hi242_5
                            have HC242_5 := Aside0.mk hl242_5
                            clear hi242_5 hl242_5
                            replace p242 := eq_true p242
                            replace q242 := eq_true q242
                            (try (have ea_ := Option.some.inj (HS3_.symm.trans hx242_3); injection ea_ with ea_ en_ ec_; subst ea_; subst ec_; clear en_))
                            (try (have ea_ := Option.some.inj (HS4_.symm.trans hx242_4); injection ea_ with ea_ en_ ec_; subst ea_; subst ec_; clear en_))
                            (try (have ea_ := Option.some.inj (HS5_.symm.trans hx242_5); injection ea_ with ea_ en_ ec_; subst ea_; subst ec_; clear en_))
                            go_wp2
                            go_roundg kj25
                            case measure => have := HJ9.out; have := HK2.out; have := HJ25.out; omega
                            case rel => exact ⟨(x12_2), (wrap64 (x13_2 + 1)), (by first | rfl | (simp; done) | (simp [*]; done) | exact isEmpty_bne _), (by first | rfl | (simp; done) | (simp [*]; done) | exact isEmpty_bne _), H', ⟨by have := HJ9.out; have := HK2.out; have := HJ25.out; omega⟩, ⟨by (with_reducible repeat (first | apply Kd.S_alloc | apply Kd.S_drewN | apply Kd.S_drew)); exact HO_9.out⟩, ⟨by (with_reducible repeat (first | apply Kd.S_alloc | apply Kd.S_drewN | apply Kd.S_drew)); exact HO_10.out⟩, ⟨by (with_reducible repeat (first | apply Kd.R_alloc | apply Kd.R_drewN | apply Kd.R_drew)); exact HO_11.out⟩, ⟨by repeat (first | (with_reducible first | exact HB.out | apply below_alloc | apply pw_below_drewN | apply below_drew1) | exact HB.out)⟩⟩
                        · rw [if_neg c42] at H
                          exact absurd H (by simp)
                      · rw [if_neg c41] at H
                        exact absurd H (by simp)
              · rw [if_neg c25] at H
                have c25b0 : decide (x13_2 < (t223.length : Int)) = false := decide_eq_false c25
                clear c25
                by_cases c58 : x12_2 = (t231.length : Int)
                · rw [if_pos c58] at H
                  have c58b0 : (x12_2 == (t231.length : Int)) = true := beq_iff_eq.mpr c58
                  have c58b1 : (x12_2 != (t231.length : Int)) = false := bne_eq_false_iff_eq.mpr c58
                  clear c58
                  replace H := Option.bind_eq_some_iff.mp H
                  obtain ⟨t234, A590, H⟩ := H
                  replace H : (some t234) = some r := H
                  have A59 := Aside0.mk A590
                  clear A590
                  obtain rfl := Option.some.inj H
                  obtain ⟨Ao60, co60, eo60⟩ := Kd.S_slice HO_9.out
                  subst eo60
                  obtain ⟨Ao61, co61, eo61⟩ := Kd.R_slice HO_11.out
                  subst eo61
                  go_wp2_with (first | (go_at_call 5; (with_reducible refine (logbooklaw17_awake.calls k2  t234 _ A59.out).mono ?_); rintro e w62 ⟨rfl, hb⟩; have n0_ := Aside0.mk (Kd.S_below (by (with_reducible repeat (first | apply Kd.S_alloc | apply Kd.S_drewN | apply Kd.S_drew)); exact HO_9.out) hb); have n1_ := Aside0.mk (Kd.S_below (by (with_reducible repeat (first | apply Kd.S_alloc | apply Kd.S_drewN | apply Kd.S_drew)); exact HO_10.out) hb); have n2_ := Aside0.mk (Kd.R_below (by (with_reducible repeat (first | apply Kd.R_alloc | apply Kd.R_drewN | apply Kd.R_drew)); exact HO_11.out) hb); have n3_ := Aside0.mk (below_step (by repeat (first | (with_reducible first | exact HB.out | apply below_alloc | apply pw_below_drewN | apply below_drew1) | exact HB.out)) hb); clear HO_9; clear HO_10; clear HO_11; clear HB; have HO_9 := n0_; have HO_10 := n1_; have HO_11 := n2_; have HB := n3_; clear n0_ n1_ n2_ n3_; (try clear hb); (try clear hb2); (try clear hk); (try clear hi)))
                  go_ret
                  exact ⟨by first | rfl | (simp [errW_none, errW_some] <;> rfl) | (simp [*, errW_none, errW_some] <;> rfl), by repeat (first | (with_reducible first | exact HB.out | apply below_alloc | apply pw_below_drewN | apply below_drew1) | exact HB.out)⟩
                · rw [if_neg c58] at H
                  have c58b0 : (x12_2 == (t231.length : Int)) = false := beq_eq_false_iff_ne.mpr c58
                  have c58b1 : (x12_2 != (t231.length : Int)) = true := bne_iff_ne.mpr c58
                  obtain rfl := Option.some.inj H
                  obtain ⟨Ao63, co63, eo63⟩ := Kd.S_slice HO_9.out
                  subst eo63
                  obtain ⟨Ao64, co64, eo64⟩ := Kd.R_slice HO_11.out
                  subst eo64
                  go_wp2
                  go_ret
                  exact ⟨by first | rfl | (simp [errW_none, errW_some] <;> rfl) | (simp [*, errW_none, errW_some] <;> rfl), by repeat (first | (with_reducible first | exact HB.out | apply below_alloc | apply pw_below_drewN | apply below_drew1) | exact HB.out)⟩

/-- THE ONE PURE STATEMENT of logbooklaw17_ScanObjects: yours. -/
def logbooklaw17_ScanObjects.Pure : Prop := ∀ (l0 : List Int) (a1 : Int) (a2 : Int) (a3 : Int), l0.length ≤ maxLen → l0.length * 1 ≤ 140737488351232 → (∀ x ∈ l0, (Lit.int .u8 x).wf = true) → (Lit.int .i64 a1).wf = true → (Lit.int .i64 a2).wf = true → (Lit.int .i64 a3).wf = true → ∃ k, logbooklaw17_ScanObjects.f k l0 a1 a2 a3 = some true
theorem logbooklaw17_ScanObjects.walk (P : logbooklaw17_ScanObjects.Pure) (a0 : Option Addr) (len0 cap0 : Nat) (z0 : List Int) (a1 : Int) (a2 : Int) (a3 : Int) (w : World) (w0 : (a0 = none ∧ len0 = 0 ∧ cap0 = 0 ∧ z0 = []) ∨ ∃ x, a0 = some x ∧ len0 ≤ cap0 ∧ cap0 ≤ maxLen ∧ z0.length = cap0 ∧ (∀ i, i < z0.length → w.cell? (x.add i) = some (.int .u8 (z0.getD i 0))) ∧ ∀ n ∈ z0, (Lit.int .u8 n).wf = true) (y0 : len0 * 1 ≤ 140737488351232) (w1 : (Lit.int .i64 a1).wf = true) (w2 : (Lit.int .i64 a2).wf = true) (w3 : (Lit.int .i64 a3).wf = true) :
    Calls Try.prog 3 #[.slice a0 len0 cap0, .int .i64 a1, .int .i64 a2, .int .i64 a3] w fun e w' => e = .returned (.bool true) ∧ Below w.heap.size w w' := by
  obtain ⟨l0, rfl, hr0, hm0, hw0, hc0⟩ := ReadsInt.ofRowC w0
  obtain ⟨k, h⟩ := P l0 a1 a2 a3 hm0 y0 hw0 w1 w2 w3
  refine (logbooklaw17_ScanObjects.calls k _ _ l0 a1 a2 a3 true w (Kd.C_of_reads (d := (0 : Int)) (h1 := fun _ => rfl) hr0) hc0 h).mono ?_
  rintro e w' ⟨rfl, hd⟩
  exact ⟨rfl, hd⟩

end Go.Proofs.Ytldoaommikclbaa.PScanObjects
