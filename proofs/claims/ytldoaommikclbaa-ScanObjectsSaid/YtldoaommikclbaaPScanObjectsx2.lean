-- LAID BY gprint.py: a scratch copy of the print, with functions that this session proved by hand among the printed ones
import Derived.Test.YtldoaommikclbaaPScanObjectsx0
import Derived.Test.YtldoaommikclbaaPScanObjectsx1
namespace Go.Proofs.Ytldoaommikclbaa.PScanObjects
open Go.RowKit Go.Proofs.YtldoaommikclbaaW.PrintWords Go.Proofs.YtldoaommikclbaaW.PrintLast Go.Proofs.Ytldoaommikclbaa.Conv Go.Proofs.YtldoaommikclbaaW.PrintMore
attribute [local go_sem] max2_int min2_int max_two min_two max_three min_three max_four min_four gtr_less   -- for this text's walks alone
set_option linter.unusedVariables false
set_option linter.unusedSimpArgs false

/-! ### obj_frame: function 36 -/
def obj_frame.j0 : Nat → List Int → Int → Int → Bool → Option (Int × Int × Bool)
  | 0, _, _, _, _ => none
  | k + 1, x0, x1, x7, x30 => if x30 = true then (some (0, 0, false)) else ((le_Get.f k x0 (wrap64 (x1 + 8)) 8).bind fun bt108 => (if bt108.2 = true then (if bt108.1 > (IntKind.u64.wrap (wrap64 ((x0.length : Int) - x1))) then (some (0, 0, false)) else ((obj_Front.f k (wrap64 (x7))).bind fun t110 => (if (wrap64 (bt108.1)) < t110 then (some (0, 0, false)) else ((le_Align.f (wrap64 (bt108.1))).bind fun t111 => (if t111 > (wrap64 ((x0.length : Int) - x1)) then (some (0, 0, false)) else (some (wrap64 (x7), wrap64 (bt108.1), true))))))) else (some (0, 0, false))))
def obj_frame.f (k : Nat) (l0 : List Int) (a1 : Int) : Option (Int × Int × Bool) := (le_Get.f k l0 a1 8).bind fun bt106 => (if bt106.2 = true then (if (Int.tmod a1 8) = 0 then (if bt106.1 < 1 then (obj_frame.j0 k l0 a1 bt106.1 true) else (obj_frame.j0 k l0 a1 bt106.1 (decide (bt106.1 > 4)))) else (obj_frame.j0 k l0 a1 bt106.1 true)) else (obj_frame.j0 k l0 a1 bt106.1 true))
theorem obj_frame.mono_l : ∀ k, (∀ y0 y1 y2 y3, LeO (obj_frame.j0 k y0 y1 y2 y3) (obj_frame.j0 (k + 1) y0 y1 y2 y3))
  | 0 => fun _ _ _ _ r h => by simp [obj_frame.j0] at h
  | k + 1 => by
    have ih0 := obj_frame.mono_l k
    · intro y0 y1 y2 y3
      unfold obj_frame.j0
      repeat' first
      | (with_reducible exact ih0 _ _ _ _)
      | (with_reducible exact le_Get.mono _ _ _ _)
      | (with_reducible exact obj_Front.mono _ _)
      | (with_reducible exact LeO.refl _)
      | (with_reducible exact LeO.none _)
      | (with_reducible refine LeO.ite ?_ ?_)
      | (with_reducible refine LeO.bind ?_ (fun _ => ?_))
      | exact ih0 _ _ _ _
      | exact le_Get.mono _ _ _ _
      | exact obj_Front.mono _ _
      | exact LeO.none _
      | refine LeO.ite ?_ ?_
      | refine LeO.bind ?_ (fun _ => ?_)
theorem obj_frame.mono : ∀ a0 a1 k, LeO (obj_frame.f k a0 a1) (obj_frame.f (k + 1) a0 a1) := by
  intro a0 a1 k
  have ih0 := obj_frame.mono_l k
  unfold obj_frame.f
  repeat' first
      | (with_reducible exact ih0 _ _ _ _)
      | (with_reducible exact le_Get.mono _ _ _ _)
      | (with_reducible exact obj_Front.mono _ _)
      | (with_reducible exact LeO.refl _)
      | (with_reducible exact LeO.none _)
      | (with_reducible refine LeO.ite ?_ ?_)
      | (with_reducible refine LeO.bind ?_ (fun _ => ?_))
      | exact ih0 _ _ _ _
      | exact le_Get.mono _ _ _ _
      | exact obj_Front.mono _ _
      | exact LeO.none _
      | refine LeO.ite ?_ ?_
      | refine LeO.bind ?_ (fun _ => ?_)
set_option maxHeartbeats 8000000 in
set_option maxRecDepth 100000 in
theorem obj_frame.calls (k : Nat) (A0 : Option Addr) (c0 : Nat) (l0 : List Int) (a1 : Int) (r1 : Int) (r2 : Int) (r3 : Bool) (w : World) (hr0 : Kd.C (Kd.int .u8) w A0 l0.length l0) (hc0 : l0.length ≤ c0) (h : obj_frame.f k l0 a1 = some (r1, r2, r3)) :
    Calls Try.prog 36 #[.slice A0 l0.length c0, .int .i64 a1] w fun e w' => e = .returned (.tuple #[.int .i64 r1, .int .i64 r2, .bool r3]) ∧ Drawn0 w w' := by
  have HR0 := Aside0.mk hr0
  have HC0 := Aside0.mk hc0
  clear hr0 hc0
  have H : ((le_Get.f k l0 a1 8).bind fun bt106 => (if bt106.2 = true then (if (Int.tmod a1 8) = 0 then (if bt106.1 < 1 then (obj_frame.j0 k l0 a1 bt106.1 true) else (obj_frame.j0 k l0 a1 bt106.1 (decide (bt106.1 > 4)))) else (obj_frame.j0 k l0 a1 bt106.1 true)) else (obj_frame.j0 k l0 a1 bt106.1 true))) = some (r1, r2, r3) := h
  clear h
  replace H := Option.bind_eq_some_iff.mp H
  obtain ⟨⟨t106, t107⟩, A30, H⟩ := H
  replace H : (if t107 = true then (if (Int.tmod a1 8) = 0 then (if t106 < 1 then (obj_frame.j0 k l0 a1 t106 true) else (obj_frame.j0 k l0 a1 t106 (decide (t106 > 4)))) else (obj_frame.j0 k l0 a1 t106 true)) else (obj_frame.j0 k l0 a1 t106 true)) = some (r1, r2, r3) := H
  have A3 := Aside0.mk A30
  clear A30
  have HC4 := Aside0.mk H
  clear H
  go_enter Try.func36, Try.ntmps36
  go_upto_region 2 with (first | ((with_reducible refine gate_callee (f := 48) rfl ?_); refine goesL_ (some 13) rfl rfl Try.func48 (by kernel_rfl) rfl #[.slice A0 l0.length c0, .int .i64 a1, .int .i64 8] rfl (by (try simp only [List.map_toArray, List.map_cons, List.map_nil]); first | done | rfl | (simp only [List.length_drop, List.length_take]; rfl)) ?_; (with_reducible refine (le_Get.calls k _ _ l0 a1 8 t106 t107 _ ?side1 ?side2 A3.out).mono ?_); (case side1 => repeat (first | exact HR0.out | (with_reducible refine Kd.C_alloc ?_ _) | (with_reducible refine Kd.C_drewN ?_ _) | (with_reducible refine Kd.C_drew ?_))); (case side2 => exact HC0.out); rintro e w' ⟨rfl, ⟨nd, rfl⟩⟩; refine ⟨_, rfl, ?_⟩))
  (try simp only [Act.put, List.setIfInBounds_toArray, List.set_cons_zero, List.set_cons_succ])
  go_cut [30] (fun v30 wc => ∃ (kq : Nat) (x30_3 : Bool), v30 = .bool x30_3 ∧ Aside0 (obj_frame.j0 kq l0 a1 t106 x30_3 = some (r1, r2, r3)) ∧ Aside0 (kq ≤ k) ∧ Drawn0 w wc)
  case first =>
    have H := HC4.out
    clear HC4
    by_cases c5 : t107 = true
    · subst c5
      have H1 : (if (Int.tmod a1 8) = 0 then (if t106 < 1 then (obj_frame.j0 k l0 a1 t106 true) else (obj_frame.j0 k l0 a1 t106 (decide (t106 > 4)))) else (obj_frame.j0 k l0 a1 t106 true)) = some (r1, r2, r3) := by rw [if_pos rfl] at H; exact H
      clear H
      have H := H1
      clear H1
      by_cases c6 : (Int.tmod a1 8) = 0
      · rw [if_pos c6] at H
        have c6b0 : ((Int.tmod a1 8) == 0) = true := beq_iff_eq.mpr c6
        have c6b1 : ((Int.tmod a1 8) != 0) = false := bne_eq_false_iff_eq.mpr c6
        clear c6
        (first | rw [c6b0] | (simp only [i64_w, i32_w]; rw [c6b0]) | skip)
        by_cases c7 : t106 < 1
        · rw [if_pos c7] at H
          have c7b0 : decide (t106 < 1) = true := decide_eq_true c7
          clear c7
          have H' := Aside0.mk H
          clear H
          go_wp2
          go_meet
          case rel => exact ⟨_, (true), (by first | rfl | (simp; done) | (simp [*]; done) | exact isEmpty_bne _), H', ⟨by first | omega | exact Nat.le_refl _⟩, by repeat (first | exact Drawn0.refl _ | apply Drawn0.step)⟩
        · rw [if_neg c7] at H
          have c7b0 : decide (t106 < 1) = false := decide_eq_false c7
          clear c7
          have H' := Aside0.mk H
          clear H
          go_wp2
          go_meet
          case rel => exact ⟨_, (decide (t106 > 4)), (by first | rfl | (simp; done) | (simp [*]; done) | exact isEmpty_bne _), H', ⟨by first | omega | exact Nat.le_refl _⟩, by repeat (first | exact Drawn0.refl _ | apply Drawn0.step)⟩
      · rw [if_neg c6] at H
        have c6b0 : ((Int.tmod a1 8) == 0) = false := beq_eq_false_iff_ne.mpr c6
        have c6b1 : ((Int.tmod a1 8) != 0) = true := bne_iff_ne.mpr c6
        (first | rw [c6b0] | (simp only [i64_w, i32_w]; rw [c6b0]) | skip)
        have H' := Aside0.mk H
        clear H
        go_wp2
        go_meet
        case rel => exact ⟨_, (true), (by first | rfl | (simp; done) | (simp [*]; done) | exact isEmpty_bne _), H', ⟨by first | omega | exact Nat.le_refl _⟩, by repeat (first | exact Drawn0.refl _ | apply Drawn0.step)⟩
    · replace c5 := Bool.eq_false_iff.mpr c5
      subst c5
      have H1 : (obj_frame.j0 k l0 a1 t106 true) = some (r1, r2, r3) := by rw [if_neg (show ¬ (false = true) by decide)] at H; exact H
      clear H
      have H := H1
      clear H1
      have H' := Aside0.mk H
      clear H
      go_wp2
      go_meet
      case rel => exact ⟨_, (true), (by first | rfl | (simp; done) | (simp [*]; done) | exact isEmpty_bne _), H', ⟨by first | omega | exact Nat.le_refl _⟩, by repeat (first | exact Drawn0.refl _ | apply Drawn0.step)⟩
  case rest =>
    clear HC4
    try clear p2
    try clear c3
    try clear c4
    try clear c5
    try clear c6
    try clear c6b0
    try clear c6b1
    try clear c7
    try clear c7b0
    obtain ⟨kq, x30_3, rfl, HA, HJ3, ⟨mc3, rfl⟩⟩ := hcut
    cases kq with
    | zero => exact absurd HA.out (by simp [obj_frame.j0])
    | succ kj3 =>
      have H := HA.out
      clear HA
      simp only [obj_frame.j0] at H
      by_cases c8 : x30_3 = true
      · subst c8
        have H1 : (some (0, 0, false)) = some (r1, r2, r3) := by rw [if_pos rfl] at H; exact H
        clear H
        have H := H1
        clear H1
        simp only [Option.some.injEq, Prod.mk.injEq] at H
        obtain ⟨rfl, rfl, rfl⟩ := H
        go_wp2
        go_ret3
        exact ⟨by first | rfl | (simp; done) | (simp [*]; done) | exact isEmpty_bne _, by repeat (first | exact Drawn0.refl _ | apply Drawn0.step)⟩
      · replace c8 := Bool.eq_false_iff.mpr c8
        subst c8
        have H1 : ((le_Get.f kj3 l0 (wrap64 (a1 + 8)) 8).bind fun bt108 => (if bt108.2 = true then (if bt108.1 > (IntKind.u64.wrap (wrap64 ((l0.length : Int) - a1))) then (some (0, 0, false)) else ((obj_Front.f kj3 (wrap64 (t106))).bind fun t110 => (if (wrap64 (bt108.1)) < t110 then (some (0, 0, false)) else ((le_Align.f (wrap64 (bt108.1))).bind fun t111 => (if t111 > (wrap64 ((l0.length : Int) - a1)) then (some (0, 0, false)) else (some (wrap64 (t106), wrap64 (bt108.1), true))))))) else (some (0, 0, false)))) = some (r1, r2, r3) := by rw [if_neg (show ¬ (false = true) by decide)] at H; exact H
        clear H
        have H := H1
        clear H1
        replace H := Option.bind_eq_some_iff.mp H
        obtain ⟨⟨t108, t109⟩, A90, H⟩ := H
        replace H : (if t109 = true then (if t108 > (IntKind.u64.wrap (wrap64 ((l0.length : Int) - a1))) then (some (0, 0, false)) else ((obj_Front.f kj3 (wrap64 (t106))).bind fun t110 => (if (wrap64 (t108)) < t110 then (some (0, 0, false)) else ((le_Align.f (wrap64 (t108))).bind fun t111 => (if t111 > (wrap64 ((l0.length : Int) - a1)) then (some (0, 0, false)) else (some (wrap64 (t106), wrap64 (t108), true))))))) else (some (0, 0, false))) = some (r1, r2, r3) := H
        have A9 := Aside0.mk A90
        clear A90
        by_cases c10 : t109 = true
        · subst c10
          have H1 : (if t108 > (IntKind.u64.wrap (wrap64 ((l0.length : Int) - a1))) then (some (0, 0, false)) else ((obj_Front.f kj3 (wrap64 (t106))).bind fun t110 => (if (wrap64 (t108)) < t110 then (some (0, 0, false)) else ((le_Align.f (wrap64 (t108))).bind fun t111 => (if t111 > (wrap64 ((l0.length : Int) - a1)) then (some (0, 0, false)) else (some (wrap64 (t106), wrap64 (t108), true))))))) = some (r1, r2, r3) := by rw [if_pos rfl] at H; exact H
          clear H
          have H := H1
          clear H1
          by_cases c11 : t108 > (IntKind.u64.wrap (wrap64 ((l0.length : Int) - a1)))
          · rw [if_pos c11] at H
            have c11b0 : decide ((IntKind.u64.wrap (wrap64 ((l0.length : Int) - a1))) < t108) = true := decide_eq_true c11
            clear c11
            simp only [Option.some.injEq, Prod.mk.injEq] at H
            obtain ⟨rfl, rfl, rfl⟩ := H
            go_wp2_with (first | ((with_reducible refine gate_callee (f := 48) rfl ?_); refine goesL_ (some 35) rfl rfl Try.func48 (by kernel_rfl) rfl #[.slice A0 l0.length c0, .int .i64 (wrap64 (a1 + 8)), .int .i64 8] rfl (by (try simp only [List.map_toArray, List.map_cons, List.map_nil]); first | done | rfl | (simp only [List.length_drop, List.length_take]; rfl)) ?_; (with_reducible refine (le_Get.calls kj3 _ _ l0 (wrap64 (a1 + 8)) 8 t108 true _ ?side1 ?side2 A9.out).mono ?_); (case side1 => repeat (first | exact HR0.out | (with_reducible refine Kd.C_alloc ?_ _) | (with_reducible refine Kd.C_drewN ?_ _) | (with_reducible refine Kd.C_drew ?_))); (case side2 => exact HC0.out); rintro e w' ⟨rfl, ⟨nd, rfl⟩⟩; refine ⟨_, rfl, ?_⟩))
            go_ret3
            exact ⟨by first | rfl | (simp; done) | (simp [*]; done) | exact isEmpty_bne _, by repeat (first | exact Drawn0.refl _ | apply Drawn0.step)⟩
          · rw [if_neg c11] at H
            have c11b0 : decide ((IntKind.u64.wrap (wrap64 ((l0.length : Int) - a1))) < t108) = false := decide_eq_false c11
            clear c11
            replace H := Option.bind_eq_some_iff.mp H
            obtain ⟨t110, A120, H⟩ := H
            replace H : (if (wrap64 (t108)) < t110 then (some (0, 0, false)) else ((le_Align.f (wrap64 (t108))).bind fun t111 => (if t111 > (wrap64 ((l0.length : Int) - a1)) then (some (0, 0, false)) else (some (wrap64 (t106), wrap64 (t108), true))))) = some (r1, r2, r3) := H
            have A12 := Aside0.mk A120
            clear A120
            by_cases c13 : (wrap64 (t108)) < t110
            · rw [if_pos c13] at H
              have c13b0 : decide ((wrap64 (t108)) < t110) = true := decide_eq_true c13
              clear c13
              simp only [Option.some.injEq, Prod.mk.injEq] at H
              obtain ⟨rfl, rfl, rfl⟩ := H
              go_wp2_with (first | ((with_reducible refine gate_callee (f := 48) rfl ?_); refine goesL_ (some 35) rfl rfl Try.func48 (by kernel_rfl) rfl #[.slice A0 l0.length c0, .int .i64 (wrap64 (a1 + 8)), .int .i64 8] rfl (by (try simp only [List.map_toArray, List.map_cons, List.map_nil]); first | done | rfl | (simp only [List.length_drop, List.length_take]; rfl)) ?_; (with_reducible refine (le_Get.calls kj3 _ _ l0 (wrap64 (a1 + 8)) 8 t108 true _ ?side1 ?side2 A9.out).mono ?_); (case side1 => repeat (first | exact HR0.out | (with_reducible refine Kd.C_alloc ?_ _) | (with_reducible refine Kd.C_drewN ?_ _) | (with_reducible refine Kd.C_drew ?_))); (case side2 => exact HC0.out); rintro e w' ⟨rfl, ⟨nd, rfl⟩⟩; refine ⟨_, rfl, ?_⟩) | (go_at_call 27; (with_reducible refine (obj_Front.calls kj3 (wrap64 (t106)) t110 _ A12.out).mono ?_); rintro e w' ⟨rfl, ⟨nd, rfl⟩⟩))
              go_ret3
              exact ⟨by first | rfl | (simp; done) | (simp [*]; done) | exact isEmpty_bne _, by repeat (first | exact Drawn0.refl _ | apply Drawn0.step)⟩
            · rw [if_neg c13] at H
              have c13b0 : decide ((wrap64 (t108)) < t110) = false := decide_eq_false c13
              clear c13
              replace H := Option.bind_eq_some_iff.mp H
              obtain ⟨t111, A140, H⟩ := H
              replace H : (if t111 > (wrap64 ((l0.length : Int) - a1)) then (some (0, 0, false)) else (some (wrap64 (t106), wrap64 (t108), true))) = some (r1, r2, r3) := H
              have A14 := Aside0.mk A140
              clear A140
              by_cases c15 : t111 > (wrap64 ((l0.length : Int) - a1))
              · rw [if_pos c15] at H
                have c15b0 : decide ((wrap64 ((l0.length : Int) - a1)) < t111) = true := decide_eq_true c15
                clear c15
                simp only [Option.some.injEq, Prod.mk.injEq] at H
                obtain ⟨rfl, rfl, rfl⟩ := H
                go_wp2_with (first | ((with_reducible refine gate_callee (f := 48) rfl ?_); refine goesL_ (some 35) rfl rfl Try.func48 (by kernel_rfl) rfl #[.slice A0 l0.length c0, .int .i64 (wrap64 (a1 + 8)), .int .i64 8] rfl (by (try simp only [List.map_toArray, List.map_cons, List.map_nil]); first | done | rfl | (simp only [List.length_drop, List.length_take]; rfl)) ?_; (with_reducible refine (le_Get.calls kj3 _ _ l0 (wrap64 (a1 + 8)) 8 t108 true _ ?side1 ?side2 A9.out).mono ?_); (case side1 => repeat (first | exact HR0.out | (with_reducible refine Kd.C_alloc ?_ _) | (with_reducible refine Kd.C_drewN ?_ _) | (with_reducible refine Kd.C_drew ?_))); (case side2 => exact HC0.out); rintro e w' ⟨rfl, ⟨nd, rfl⟩⟩; refine ⟨_, rfl, ?_⟩) | (go_at_call 27; (with_reducible refine (obj_Front.calls kj3 (wrap64 (t106)) t110 _ A12.out).mono ?_); rintro e w' ⟨rfl, ⟨nd, rfl⟩⟩) | (go_at_call 32; (with_reducible refine (le_Align.calls (wrap64 (t108)) t111 _ A14.out).mono ?_); rintro e w' ⟨rfl, ⟨nd, rfl⟩⟩))
                go_ret3
                exact ⟨by first | rfl | (simp; done) | (simp [*]; done) | exact isEmpty_bne _, by repeat (first | exact Drawn0.refl _ | apply Drawn0.step)⟩
              · rw [if_neg c15] at H
                have c15b0 : decide ((wrap64 ((l0.length : Int) - a1)) < t111) = false := decide_eq_false c15
                clear c15
                simp only [Option.some.injEq, Prod.mk.injEq] at H
                obtain ⟨rfl, rfl, rfl⟩ := H
                go_wp2_with (first | ((with_reducible refine gate_callee (f := 48) rfl ?_); refine goesL_ (some 35) rfl rfl Try.func48 (by kernel_rfl) rfl #[.slice A0 l0.length c0, .int .i64 (wrap64 (a1 + 8)), .int .i64 8] rfl (by (try simp only [List.map_toArray, List.map_cons, List.map_nil]); first | done | rfl | (simp only [List.length_drop, List.length_take]; rfl)) ?_; (with_reducible refine (le_Get.calls kj3 _ _ l0 (wrap64 (a1 + 8)) 8 t108 true _ ?side1 ?side2 A9.out).mono ?_); (case side1 => repeat (first | exact HR0.out | (with_reducible refine Kd.C_alloc ?_ _) | (with_reducible refine Kd.C_drewN ?_ _) | (with_reducible refine Kd.C_drew ?_))); (case side2 => exact HC0.out); rintro e w' ⟨rfl, ⟨nd, rfl⟩⟩; refine ⟨_, rfl, ?_⟩) | (go_at_call 27; (with_reducible refine (obj_Front.calls kj3 (wrap64 (t106)) t110 _ A12.out).mono ?_); rintro e w' ⟨rfl, ⟨nd, rfl⟩⟩) | (go_at_call 32; (with_reducible refine (le_Align.calls (wrap64 (t108)) t111 _ A14.out).mono ?_); rintro e w' ⟨rfl, ⟨nd, rfl⟩⟩))
                go_ret3
                exact ⟨by first | rfl | (simp; done) | (simp [*]; done) | exact isEmpty_bne _, by repeat (first | exact Drawn0.refl _ | apply Drawn0.step)⟩
        · replace c10 := Bool.eq_false_iff.mpr c10
          subst c10
          have H1 : (some (0, 0, false)) = some (r1, r2, r3) := by rw [if_neg (show ¬ (false = true) by decide)] at H; exact H
          clear H
          have H := H1
          clear H1
          simp only [Option.some.injEq, Prod.mk.injEq] at H
          obtain ⟨rfl, rfl, rfl⟩ := H
          go_wp2_with (first | ((with_reducible refine gate_callee (f := 48) rfl ?_); refine goesL_ (some 35) rfl rfl Try.func48 (by kernel_rfl) rfl #[.slice A0 l0.length c0, .int .i64 (wrap64 (a1 + 8)), .int .i64 8] rfl (by (try simp only [List.map_toArray, List.map_cons, List.map_nil]); first | done | rfl | (simp only [List.length_drop, List.length_take]; rfl)) ?_; (with_reducible refine (le_Get.calls kj3 _ _ l0 (wrap64 (a1 + 8)) 8 t108 false _ ?side1 ?side2 A9.out).mono ?_); (case side1 => repeat (first | exact HR0.out | (with_reducible refine Kd.C_alloc ?_ _) | (with_reducible refine Kd.C_drewN ?_ _) | (with_reducible refine Kd.C_drew ?_))); (case side2 => exact HC0.out); rintro e w' ⟨rfl, ⟨nd, rfl⟩⟩; refine ⟨_, rfl, ?_⟩))
          go_ret3
          exact ⟨by first | rfl | (simp; done) | (simp [*]; done) | exact isEmpty_bne _, by repeat (first | exact Drawn0.refl _ | apply Drawn0.step)⟩

-- GIVEN rounds=1 making=1 needs=logbook/le.Get
/-! ### le.Reader.Num: by hand: a reader's block, its bytes' slice with its room -/
structure Rdr (w : World) (g : Nat) (A : Option Addr) (n c : Nat) (at_ : Int) (bad : Bool) : Prop where
  blk : w.heap[g]? = some (.cells #[.slice A n c, .int .i64 at_, .bool bad] 88 (0, 0))
theorem Rdr.drewN {w : World} {g : Nat} {A : Option Addr} {n c : Nat} {at_ : Int} {bad : Bool} (h : Rdr w g A n c at_ bad) (m : Nat) : Rdr (w.drewN m) g A n c at_ bad := ⟨h.blk⟩
theorem Rdr.below {w w1 : World} {g : Nat} {A : Option Addr} {n c : Nat} {at_ : Int} {bad : Bool} (h : Rdr w g A n c at_ bad) (hb : Below w.heap.size w w1) : Rdr w1 g A n c at_ bad := ⟨blk_below h.blk hb⟩
theorem Rdr.setAt {w : World} {g : Nat} {A : Option Addr} {n c : Nat} {at_ : Int} {bad : Bool} (h : Rdr w g A n c at_ bad) (x : Int) : Rdr (w.setCell ⟨g, 1, none⟩ (.int .i64 x)) g A n c x bad := ⟨blk_put h.blk 1 _ rfl⟩
theorem Rdr.setBad {w : World} {g : Nat} {A : Option Addr} {n c : Nat} {at_ : Int} {bad : Bool} (h : Rdr w g A n c at_ bad) (x : Bool) : Rdr (w.setCell ⟨g, 2, none⟩ (.bool x)) g A n c at_ x := ⟨blk_put h.blk 2 _ rfl⟩
theorem Rdr.apart {w : World} {g : Nat} {A' : Option Addr} {n c : Nat} {at_ : Int} {bad : Bool} (hI : Rdr w g A' n c at_ bad) {A : Option Addr} {l : List Int} (h : Kd.C (Kd.int .u8) w A l.length l) : ∀ ad, A = some ad → 0 < l.length → ad.block ≠ g := by
  intro ad hA hp he
  obtain ⟨ad2, hA2, hc⟩ := Kd.at_int h 0 (Int.le_refl _) (by omega)
  rw [hA] at hA2
  injection hA2 with e
  subst e
  rw [show ad.add (0 : Int).toNat = ad from if_pos rfl] at hc
  unfold World.cell? at hc
  rw [he, hI.blk] at hc
  dsimp only at hc
  split at hc
  · cases hc
  · rcases ho : ad.off with _ | _ | _ | m <;> rw [ho] at hc <;> simp at hc
theorem Rdr.keepC {w W : World} {g : Nat} {A' : Option Addr} {n c : Nat} {at_ : Int} {bad : Bool} (hI : Rdr w g A' n c at_ bad) {A : Option Addr} {l : List Int} (h : Kd.C (Kd.int .u8) w A l.length l) (hk : KeepBut w W g none) : Kd.C (Kd.int .u8) W A l.length l := Kd.C_keep (0 : Int) h hk (hI.apart h)
theorem put_drewN (g : Nat) (w : World) (n : Nat) : Put g w (w.drewN n) := ⟨rfl, rfl, rfl, rfl, fun _ _ => rfl⟩
theorem put_cell (g : Nat) (w : World) (n j : Nat) (x : Value) : Put g w ((w.drewN n).setCell ⟨g, j, none⟩ x) := (put_drewN g w n).trans (put_setCell (w.drewN n) ⟨g, j, none⟩ x)
def le_Reader_Num.f (k : Nat) (l : List Int) (at_ : Int) (bad : Bool) (a1 : Int) : Option (Int × Int × Bool) :=
  (le_Get.f k l at_ a1).bind fun t => if bad = true then some (0, at_, true) else if t.2 = true then some (t.1, wrap64 (at_ + a1), false) else some (0, at_, true)
theorem le_Reader_Num.mono : ∀ l at_ bad a1 k, LeO (le_Reader_Num.f k l at_ bad a1) (le_Reader_Num.f (k + 1) l at_ bad a1) := by
  intro l at_ bad a1 k
  unfold le_Reader_Num.f
  exact LeO.bind (le_Get.mono _ _ _ _) (fun t => LeO.refl _)
set_option maxHeartbeats 3200000 in
set_option maxRecDepth 100000 in
theorem le_Reader_Num.calls (k : Nat) (g : Nat) (A : Option Addr) (c : Nat) (l : List Int) (at_ : Int) (bad : Bool) (a1 : Int) (r1 r2 : Int) (r3 : Bool) (w : World) (hI : Rdr w g A l.length c at_ bad) (hr : Kd.C (Kd.int .u8) w A l.length l) (hc : l.length ≤ c) (h : le_Reader_Num.f k l at_ bad a1 = some (r1, r2, r3)) :
    Calls Try.prog 49 #[.pointer (some ⟨g, 0, none⟩), .int .i64 a1] w fun e w' => e = .returned (.int .u64 r1) ∧ Rdr w' g A l.length c r2 r3 ∧ Put g w w' := by
  unfold le_Reader_Num.f at h
  obtain ⟨⟨t1, t2⟩, ht, h⟩ := Option.bind_eq_some_iff.1 h
  dsimp only at h
  have HT := Lib.hid ht
  have HI := Lib.hid hI
  have HR := Lib.hid hr
  have HC := Lib.hid hc
  have k0 := blk_cell hI.blk 0
  have k1 := blk_cell hI.blk 1
  have k2 := blk_cell hI.blk 2
  have f1 := blk_frozen hI.blk 1
  have f2 := blk_frozen hI.blk 2
  simp at k0 k1 k2
  clear ht hI hr hc
  cases bad with
  | true =>
    rw [if_pos rfl] at h
    simp only [Option.some.injEq, Prod.mk.injEq] at h
    obtain ⟨rfl, rfl, rfl⟩ := h
    go_enter Try.func49, Try.ntmps49
    go_wp2
    go_quiet (first | (go_at_call 48; (with_reducible refine (le_Get.calls k A c l at_ a1 t1 t2 _ (Kd.C_drewN HR.out _) HC.out HT.out).mono ?_); rintro e w' ⟨rfl, ⟨nd, rfl⟩⟩; (try first | exact ⟨rfl, _, World.drewN_drewN _ _ _⟩ | exact ⟨rfl, _, Eq.trans (World.drewN_drewN _ _ _) (congrArg (World.drewN _) (Nat.add_assoc _ _ _))⟩)))
    go_wp2
    go_ret
    exact ⟨rfl, (HI.out.drewN _).setBad true, put_cell g w _ _ _⟩
  | false =>
    rw [if_neg (by decide)] at h
    cases t2 with
    | true =>
      rw [if_pos rfl] at h
      simp only [Option.some.injEq, Prod.mk.injEq] at h
      obtain ⟨rfl, rfl, rfl⟩ := h
      go_enter Try.func49, Try.ntmps49
      go_wp2
      go_quiet (first | (go_at_call 48; (with_reducible refine (le_Get.calls k A c l at_ a1 t1 true _ (Kd.C_drewN HR.out _) HC.out HT.out).mono ?_); rintro e w' ⟨rfl, ⟨nd, rfl⟩⟩; (try first | exact ⟨rfl, _, World.drewN_drewN _ _ _⟩ | exact ⟨rfl, _, Eq.trans (World.drewN_drewN _ _ _) (congrArg (World.drewN _) (Nat.add_assoc _ _ _))⟩)))
      go_wp2
      go_ret
      exact ⟨rfl, (HI.out.drewN _).setAt _, put_cell g w _ _ _⟩
    | false =>
      rw [if_neg (by decide)] at h
      simp only [Option.some.injEq, Prod.mk.injEq] at h
      obtain ⟨rfl, rfl, rfl⟩ := h
      go_enter Try.func49, Try.ntmps49
      go_wp2
      go_quiet (first | (go_at_call 48; (with_reducible refine (le_Get.calls k A c l at_ a1 t1 false _ (Kd.C_drewN HR.out _) HC.out HT.out).mono ?_); rintro e w' ⟨rfl, ⟨nd, rfl⟩⟩; (try first | exact ⟨rfl, _, World.drewN_drewN _ _ _⟩ | exact ⟨rfl, _, Eq.trans (World.drewN_drewN _ _ _) (congrArg (World.drewN _) (Nat.add_assoc _ _ _))⟩)))
      go_wp2
      go_ret
      exact ⟨rfl, (HI.out.drewN _).setBad true, put_cell g w _ _ _⟩

-- GIVEN rounds=1 making=1 needs=(*logbook/le.Reader).Num
/-! ### le.Reader.Words: by hand -/
def wordsL (k : Nat) (l : List Int) : Nat → Int → Option (List Int)
  | 0, _ => some []
  | m + 1, a => (le_Get.f k l a 8).bind fun t => if t.2 = true then (wordsL k l m (a + 8)).bind fun r => some (t.1 :: r) else none
theorem wordsL_mono (l : List Int) (k : Nat) : ∀ (m : Nat) (a : Int), LeO (wordsL k l m a) (wordsL (k + 1) l m a)
  | 0, a => LeO.refl _
  | m + 1, a => LeO.bind (le_Get.mono _ _ _ _) (fun t => by
      by_cases c : t.2 = true
      · rw [if_pos c, if_pos c]
        exact LeO.bind (wordsL_mono l k m _) (fun r => LeO.refl _)
      · rw [if_neg c, if_neg c]
        exact LeO.refl _)
theorem wordsL_at {k : Nat} {l : List Int} : ∀ {m : Nat} {a : Int} {r : List Int}, wordsL k l m a = some r → r.length = m ∧ ∀ j, j < m → le_Get.f k l (a + 8 * (j : Int)) 8 = some (r.getD j 0, true)
  | 0, a, r, h => by
      cases h
      exact ⟨rfl, fun j hj => absurd hj (by omega)⟩
  | m + 1, a, r, h => by
      obtain ⟨t, ht, h⟩ := Option.bind_eq_some_iff.1 h
      by_cases c : t.2 = true
      · rw [if_pos c] at h
        obtain ⟨q, hq, h⟩ := Option.bind_eq_some_iff.1 h
        cases h
        obtain ⟨i1, i2⟩ := wordsL_at hq
        refine ⟨by simp [i1], fun j hj => ?_⟩
        cases j with
        | zero =>
          have e : a + 8 * ((0 : Nat) : Int) = a := by omega
          rw [e, ht, ← c]
          rfl
        | succ j =>
          have e : a + 8 * ((j + 1 : Nat) : Int) = (a + 8) + 8 * (j : Int) := by omega
          rw [e, i2 j (by omega)]
          rfl
      · rw [if_neg c] at h
        cases h
def le_Reader_Words.f (k : Nat) (l : List Int) (at_ : Int) (bad : Bool) (n : Int) : Option (List Int × Int × Bool) :=
  if bad = true then some ([], at_, true) else if n < 0 then some ([], at_, true) else if n > wrap64 (Int.tdiv (wrap64 ((l.length : Int) - at_)) 8) then some ([], at_, true)
  else if 0 ≤ at_ ∧ at_ + 8 * n ≤ (l.length : Int) ∧ l.length ≤ 140737488355328 then (wordsL k l n.toNat at_).bind fun r => some (r, at_ + 8 * n, false) else none
theorem le_Reader_Words.mono : ∀ l at_ bad n k, LeO (le_Reader_Words.f k l at_ bad n) (le_Reader_Words.f (k + 1) l at_ bad n) := by
  intro l at_ bad n k
  unfold le_Reader_Words.f
  repeat' (first | exact LeO.refl _ | split)
  exact LeO.bind (wordsL_mono _ _ _ _) (fun r => LeO.refl _)
theorem half_row {rs : List Int} {m : Nat} (h : m < rs.length) : (rs.take m ++ List.replicate (rs.length - m) (0 : Int)).set m (rs.getD m 0) = rs.take (m + 1) ++ List.replicate (rs.length - (m + 1)) 0 := by
  apply List.ext_getElem
  · simp
    omega
  · intro i h1 h2
    rw [List.getElem_set]
    by_cases e : m = i
    · subst e
      rw [if_pos rfl, List.getElem_append_left (by simp; omega)]
      simp [List.getD_eq_getElem?_getD, List.getElem?_eq_getElem h]
    · rw [if_neg e]
      by_cases e2 : i < m
      · rw [List.getElem_append_left (by simp; omega), List.getElem_append_left (by simp; omega)]
        simp
      · rw [List.getElem_append_right (by simp; omega), List.getElem_append_right (by simp; omega)]
        simp
set_option maxHeartbeats 6400000 in
set_option maxRecDepth 100000 in
theorem le_Reader_Words.calls (k : Nat) (g : Nat) (A : Option Addr) (c : Nat) (l : List Int) (at_ : Int) (bad : Bool) (a1 : Int) (r1 : List Int) (r2 : Int) (r3 : Bool) (w : World) (hI : Rdr w g A l.length c at_ bad) (hr : Kd.C (Kd.int .u8) w A l.length l) (hc : l.length ≤ c) (h : le_Reader_Words.f k l at_ bad a1 = some (r1, r2, r3)) :
    Calls Try.prog 38 #[.pointer (some ⟨g, 0, none⟩), .int .i64 a1] w fun e w' => ∃ v0_ : Value, e = .returned v0_ ∧ Kd.R (Kd.int .u64) 47 w' w.heap.size (fun _ => True) v0_ r1 ∧ Rdr w' g A l.length c r2 r3 ∧ Below g w w' ∧ KeepBut w w' g none := by
  have HI := Lib.hid hI
  have HR := Lib.hid hr
  have HC := Lib.hid hc
  have hgl := blk_lt hI.blk
  have HGL := Lib.hid hgl
  have k0 := blk_cell hI.blk 0
  have k1 := blk_cell hI.blk 1
  have k2 := blk_cell hI.blk 2
  have f1 := blk_frozen hI.blk 1
  have f2 := blk_frozen hI.blk 2
  simp at k0 k1 k2
  clear hI hr hc hgl
  unfold le_Reader_Words.f at h
  have bend : ∀ n : Nat, Hid (Below g w ((w.drewN n).setCell ⟨g, 2, none⟩ (.bool true)) ∧ KeepBut w ((w.drewN n).setCell ⟨g, 2, none⟩ (.bool true)) g none ∧ Rdr ((w.drewN n).setCell ⟨g, 2, none⟩ (.bool true)) g A l.length c at_ true) := fun n => Lib.hid ⟨(put_cell g w n 2 _).below (Below.refl _ _) (Nat.le_refl _), (keep_drewN (KeepBut.refl w g none) n).set_ 2 _, (HI.out.drewN n).setBad true⟩
  cases bad with
  | true =>
    rw [if_pos rfl] at h
    simp only [Option.some.injEq, Prod.mk.injEq] at h
    obtain ⟨rfl, rfl, rfl⟩ := h
    go_enter Try.func38, Try.ntmps38
    go_wp2
    go_quiet (fail)
    go_wp2
    go_ret
    exact ⟨_, rfl, Kd.R_nil _ _ _ _ _, (bend _).out.2.2, (bend _).out.1, (bend _).out.2.1⟩
  | false =>
    rw [if_neg (by decide)] at h
    by_cases hn : a1 < 0
    · rw [if_pos hn] at h
      simp only [Option.some.injEq, Prod.mk.injEq] at h
      obtain ⟨rfl, rfl, rfl⟩ := h
      have hnb : decide (a1 < 0) = true := decide_eq_true hn
      clear hn
      go_enter Try.func38, Try.ntmps38
      go_wp2
      go_quiet (fail)
      go_wp2
      go_ret
      exact ⟨_, rfl, Kd.R_nil _ _ _ _ _, (bend _).out.2.2, (bend _).out.1, (bend _).out.2.1⟩
    · rw [if_neg hn] at h
      have hnb : decide (a1 < 0) = false := decide_eq_false hn
      by_cases hm : a1 > wrap64 (Int.tdiv (wrap64 ((l.length : Int) - at_)) 8)
      · rw [if_pos hm] at h
        simp only [Option.some.injEq, Prod.mk.injEq] at h
        obtain ⟨rfl, rfl, rfl⟩ := h
        have hmb : decide (wrap64 (Int.tdiv (wrap64 ((l.length : Int) - at_)) 8) < a1) = true := decide_eq_true hm
        clear hn hm
        go_enter Try.func38, Try.ntmps38
        go_wp2
        go_quiet (fail)
        go_wp2
        go_ret
        exact ⟨_, rfl, Kd.R_nil _ _ _ _ _, (bend _).out.2.2, (bend _).out.1, (bend _).out.2.1⟩
      · rw [if_neg hm] at h
        have hmb : decide (wrap64 (Int.tdiv (wrap64 ((l.length : Int) - at_)) 8) < a1) = false := decide_eq_false hm
        by_cases hq : 0 ≤ at_ ∧ at_ + 8 * a1 ≤ (l.length : Int) ∧ l.length ≤ 140737488355328
        case neg => rw [if_neg hq] at h; cases h
        rw [if_pos hq] at h
        obtain ⟨rs, hrs, h⟩ := Option.bind_eq_some_iff.1 h
        simp only [Option.some.injEq, Prod.mk.injEq] at h
        obtain ⟨rfl, rfl, rfl⟩ := h
        obtain ⟨q1, q2, q3⟩ := hq
        obtain ⟨wl, wa⟩ := wordsL_at hrs
        obtain ⟨N, rfl⟩ := Int.eq_ofNat_of_zero_le (show 0 ≤ a1 by omega)
        simp only [Int.toNat_natCast] at wl wa hrs
        have WA := Lib.hid wa
        have WL := Lib.hid wl
        have Q1 := Lib.hid q1
        have Q2 := Lib.hid q2
        have Q3 := Lib.hid q3
        have n0 : (0 : Int) ≤ (N : Int) := by omega
        have n1 : ((N : Int).toNat : Nat) * 8 ≤ 281474976710656 := by omega
        clear hn hm q1 q2 q3 wa hrs
        go_enter Try.func38, Try.ntmps38
        go_wp2
        go_quiet (fail)
        have hb1 : Below w.heap.size w (w.drewN nq) := pw_below_drewN (Below.refl _ _) nq
        have HB := Lib.hid hb1
        have HI1 := Lib.hid (HI.out.drewN nq)
        generalize w.drewN nq = w1 at hb1 HB HI1 k0 k1 k2 f1 f2 ⊢
        clear hb1 k0 k1 k2 f1 f2 bend
        go_wp2_with (first | ((with_reducible refine gate_dst (N := 34) rfl ?_); refine Kd.R_make (Kd.int .u64) _ 47 rfl (N := 34) rfl 29 _ _ rfl (N : Int) rfl rfl Try.underlying29 (.int .u64 0) 8 info47 rfl (by decide) (by omega) (0 : Int) (ok := fun _ => True) (okp := fun _ => True) rfl (fun _ hk => hk) trivial n0 n1 (Below.refl _ _) (Nat.le_refl _) ?_; intro v136 w15 ho16 hb hg_ hnew_; clear hg_ hnew_; have HO := Lib.hid (Kd.R_lower ho16 HB.out.size); have HI2 := Lib.hid (HI1.out.below hb); have HB2 := Lib.hid (HB.out.trans (hb.mono HB.out.size)); obtain ⟨AO, cO, hv⟩ := Kd.R_slice ho16; rw [List.length_replicate, Int.toNat_natCast] at hv; subst hv; clear ho16 hb))
        go_loopw [37] (fun v wr => ∃ m : Nat, m ≤ N ∧ v = .int .i64 (m : Int) ∧ Hid (Kd.R (Kd.int .u64) 47 wr w.heap.size (fun _ => True) (.slice AO N cO) (rs.take m ++ List.replicate (N - m) 0)) ∧ Hid (Rdr wr g A l.length c (at_ + 8 * (m : Int)) false) ∧ Hid (Below g w wr ∧ KeepBut w wr g none)) (fun v _ => N - (intOf v).toNat)
        case atStart => exact ⟨0, Nat.zero_le _, rfl, Lib.hid (by simpa using HO.out), Lib.hid (by simpa using HI2.out), Lib.hid ⟨(HB2.out.mono (Nat.le_of_lt HGL.out)), KeepBut.of_below HB2.out g none⟩⟩
        case round =>
          obtain ⟨m, hm, rfl, ho, hi, hb⟩ := hrel
          by_cases hlt : m < N
          · have hlt2 : (m : Int) < (N : Int) := by omega
            have hm0 : (0 : Int) ≤ (m : Int) := by omega
            have hxl : (rs.take m ++ List.replicate (N - m) (0 : Int)).length = N := by
              have := WL.out
              simp
              omega
            obtain ⟨go, co, eo, gb, gl, cl, HG⟩ := Kd.R_form ho.out (by omega)
            rw [hxl] at eo
            injection eo with ea _ ec
            subst ea
            subst ec
            have GB := Lib.hid gb
            have GG := Lib.hid HG
            have hgo : go ≠ g := by
              have := HGL.out
              omega
            have HGO := Lib.hid hgo
            clear gb gl HG hgo
            have hng : le_Reader_Num.f k l (at_ + 8 * (m : Int)) false 8 = some (rs.getD m 0, at_ + 8 * ((m + 1 : Nat) : Int), false) := by
              unfold le_Reader_Num.f
              rw [WA.out m hlt]
              have := Q1.out
              have := Q2.out
              have := Q3.out
              have e : wrap64 (at_ + 8 * (m : Int) + 8) = at_ + 8 * ((m + 1 : Nat) : Int) := by
                unfold wrap64
                omega
              simp only [Option.bind_some, Bool.false_eq_true, if_false, if_true, e]
            have HN := Lib.hid hng
            generalize hx : rs.getD m 0 = x at HN
            have HX := Lib.hid hx
            have HRR := Lib.hid (HI.out.keepC HR.out hb.out.2)
            clear hng hx hxl
            go_wp2_with (first
              | (go_at_call 49; (with_reducible refine (le_Reader_Num.calls k g A c l (at_ + 8 * (m : Int)) false 8 x _ false _ hi.out HRR.out HC.out HN.out).mono ?_); rintro e w2 ⟨rfl, hi2, hput⟩; have HI3 := Lib.hid hi2; have HPUT := Lib.hid hput; have HO2 := Lib.hid (hput.R ho.out hi.out.blk (by decide)); have hcf := Kd.R_celln (0 : Int) HO2.out (m : Int) hm0 hlt2; rw [Int.toNat_natCast] at hcf; obtain ⟨hx0, hf0⟩ := hcf; have HP := Kd.R_putg HO2.out (m : Int) x; rw [Int.toNat_natCast] at HP; clear hi2 hput)
              | ((with_reducible refine gate_store (t := 47) (p := 44) rfl ?_); refine store_event (t := 47) (p := 44) (v := ?vo) (w1 := (w2.setCell ⟨go, m, none⟩ (.int .u64 x))) ?hg ?ho ?hn ?hr ?_; (case ho => rfl); (case hg => rfl); (case hn => rfl); (case hr => first | (go_simp; done) | (go_simp; rfl)); intro w3 hw; have HO3 := Lib.hid (show Kd.R (Kd.int .u64) 47 w3 w.heap.size (fun _ => True) (.slice (some ⟨go, 0, none⟩) N cO) ((rs.take m ++ List.replicate (N - m) (0 : Int)).set m x) by rw [hw]; exact HP.1); have HI4 := Lib.hid (show Rdr w3 g A l.length c (at_ + 8 * ((m + 1 : Nat) : Int)) false by rw [hw]; exact ⟨blk_far HI3.out.blk (fun e => HGO.out e.symm) _⟩); have HB3 := Lib.hid (show Below g w w3 ∧ KeepBut w w3 g none by rw [hw]; exact ⟨(HPUT.out.below hb.out.1 (Nat.le_refl _)).setCell (Nat.le_trans (Nat.le_of_lt HGL.out) GB.out) _, keep_far ⟨Nat.le_trans hb.out.2.1 (Nat.le_of_eq HPUT.out.size.symm), fun i hi hne hr => (HPUT.out.block i hne).trans (hb.out.2.2 i hi hne hr)⟩ GB.out _⟩); clear HP hw))
            go_roundw
            case rel => exact ⟨m + 1, by omega, by first | rfl | go_num, Lib.hid (by have z := HO3.out; rw [← HX.out, show N = rs.length from WL.out.symm, half_row (by rw [WL.out]; exact hlt)] at z; rw [WL.out] at z; exact z), HI4, HB3⟩
            case measure => simp [intOf]; omega
          · have hlt2 : (N : Int) ≤ (m : Int) := by omega
            have hmN : m = N := by omega
            subst hmN
            have HOE := Lib.hid (show Kd.R (Kd.int .u64) 47 wr w.heap.size (fun _ => True) (.slice AO m cO) rs by have z := ho.out; rw [Nat.sub_self, List.replicate_zero, List.append_nil, List.take_of_length_le (by rw [WL.out]; exact Nat.le_refl _)] at z; exact z)
            go_wp2
            go_ret
            exact ⟨_, rfl, HOE.out, hi.out, hb.out.1, hb.out.2⟩

-- GIVEN rounds=0 making=1
/-! ### slices.Clone of bytes: by hand -/
def slices_Clone_byte_byte.f (l0 : List Int) : Option (List Int) := if l0.length ≤ 140737488355328 then some l0 else none
theorem clone_info : (Try.prog.info? 5).map (fun i => (i.zero, i.size, i.bytes)) = some (some (.int .u8 0), 1, 1) := by kernel_rfl
theorem clone_new (w : World) : Kd.R (Kd.int .u8) 5 (w.alloc (.cells #[] 5)) w.heap.size (fun _ => True) (.slice (some ⟨w.heap.size, 0, none⟩) 0 0) [] :=
  Kd.R_of_own ⟨rfl, .inr ⟨w.heap.size, 0, #[], rfl, Nat.le_refl _, blk_new w _, Nat.le_refl _, by decide, rfl, rfl⟩⟩ (fun _ _ => trivial)
set_option maxHeartbeats 1600000 in
theorem slices_Clone_byte_byte.calls (A0 : Option Addr) (c0 : Nat) (l0 : List Int) (r : List Int) (w : World) (hr0 : Kd.C (Kd.int .u8) w A0 l0.length l0) (hc0 : l0.length ≤ c0) (h : slices_Clone_byte_byte.f l0 = some r) :
    Calls Try.prog 45 #[.slice A0 l0.length c0] w fun e w' => ∃ v0_ : Value, e = .returned (v0_) ∧ Kd.R (Kd.int .u8) 5 w' w.heap.size (fun _ => True) v0_ r ∧ Below w.heap.size w w' := by
  unfold slices_Clone_byte_byte.f at h
  by_cases hb : l0.length ≤ 140737488355328
  case neg => rw [if_neg hb] at h; cases h
  rw [if_pos hb] at h
  obtain rfl := Option.some.inj h
  clear h
  have HR := Lib.hid hr0
  have HL := Lib.hid hb
  clear hr0 hb
  cases A0 with
  | none =>
    have hl : l0 = [] := by
      cases l0 with
      | nil => rfl
      | cons x t =>
        obtain ⟨ad, e, _⟩ := Kd.at_int HR.out 0 (by omega) (by simp only [List.length_cons]; omega)
        cases e
    subst hl
    have he : ∀ W : World, (binOp .eql 22 (.slice none 0 c0) (.slice none 0 0)).run Try.prog W = .ok (.bool true) W := fun _ => rfl
    go_enter Try.func45, Try.ntmps45
    go_wp2
    go_ret
    exact ⟨_, rfl, Kd.R_nil _ _ _ _ _, Below.refl _ _⟩
  | some ad =>
    have he : ∀ W : World, (binOp .eql 22 (.slice (some ad) l0.length c0) (.slice none 0 0)).run Try.prog W = .ok (.bool false) W := fun _ => rfl
    go_enter Try.func45, Try.ntmps45
    go_wp2_with (first
      | (at_builtin; refine Kd.R_append_rows (Kd.int .u8) (w0 := w) w.heap.size rfl (.tmp 5) (.tmp 6) 22 5 (.int .u8 0) 1 rfl Try.underlying22 clone_info rfl (by decide) (by omega) _ [] l0 _ _ _ (fun _ => True) (fun _ => False) rfl rfl (clone_new w) (Kd.C_below HR.out ((Below.refl _ _).alloc (Nat.le_refl _) _)) (fun _ _ h => h) (fun _ h => h.elim) (fun _ _ => trivial) ((Below.refl _ _).alloc (Nat.le_refl _) _) (by simp) (by have := HL.out; simp only [List.length_nil]; omega) ?_; intro v3 w3 ho3 hb3 hg3 hat3; have HO3 := Lib.hid ho3; have HB3 := Lib.hid hb3; clear ho3 hb3 hg3 hat3))
    go_ret
    exact ⟨_, rfl, HO3.out, HB3.out⟩

-- GIVEN rounds=0 making=1 needs=slices.Clone[[]byte,byte]
/-! ### le.Reader.Raw: by hand -/
def le_Reader_Raw.f (l : List Int) (at_ : Int) (bad : Bool) (n : Int) : Option (List Int × Int × Bool) :=
  if bad = true then some ([], at_, true) else if n < 0 then some ([], at_, true) else if n > wrap64 ((l.length : Int) - at_) then some ([], at_, true)
  else if 0 ≤ at_ ∧ at_ + n ≤ (l.length : Int) ∧ l.length ≤ 140737488355328 then some ((l.take (at_ + n).toNat).drop at_.toNat, at_ + n, false) else none
theorem rkeep {B : Nat} {w W W1 : World} (hb : Below W.heap.size W W1) (h : Below B w W) (hB : B ≤ W.heap.size) : Below B w W1 := h.trans (hb.mono hB)
set_option maxHeartbeats 6400000 in
set_option maxRecDepth 100000 in
theorem le_Reader_Raw.calls (g : Nat) (A : Option Addr) (c : Nat) (l : List Int) (at_ : Int) (bad : Bool) (a1 : Int) (r1 : List Int) (r2 : Int) (r3 : Bool) (w : World) (hI : Rdr w g A l.length c at_ bad) (hr : Kd.C (Kd.int .u8) w A l.length l) (hc : l.length ≤ c) (h : le_Reader_Raw.f l at_ bad a1 = some (r1, r2, r3)) :
    Calls Try.prog 40 #[.pointer (some ⟨g, 0, none⟩), .int .i64 a1] w fun e w' => ∃ v0_ : Value, e = .returned v0_ ∧ Kd.R (Kd.int .u8) 5 w' w.heap.size (fun _ => True) v0_ r1 ∧ Rdr w' g A l.length c r2 r3 ∧ Below g w w' ∧ KeepBut w w' g none := by
  have HI := Lib.hid hI
  have HR := Lib.hid hr
  have HC := Lib.hid hc
  have hgl := blk_lt hI.blk
  have HGL := Lib.hid hgl
  have k0 := blk_cell hI.blk 0
  have k1 := blk_cell hI.blk 1
  have k2 := blk_cell hI.blk 2
  have f1 := blk_frozen hI.blk 1
  have f2 := blk_frozen hI.blk 2
  simp at k0 k1 k2
  clear hI hr hc hgl
  unfold le_Reader_Raw.f at h
  have bend : ∀ n : Nat, Hid (Below g w ((w.drewN n).setCell ⟨g, 2, none⟩ (.bool true)) ∧ KeepBut w ((w.drewN n).setCell ⟨g, 2, none⟩ (.bool true)) g none ∧ Rdr ((w.drewN n).setCell ⟨g, 2, none⟩ (.bool true)) g A l.length c at_ true) := fun n => Lib.hid ⟨(put_cell g w n 2 _).below (Below.refl _ _) (Nat.le_refl _), (keep_drewN (KeepBut.refl w g none) n).set_ 2 _, (HI.out.drewN n).setBad true⟩
  cases bad with
  | true =>
    rw [if_pos rfl] at h
    simp only [Option.some.injEq, Prod.mk.injEq] at h
    obtain ⟨rfl, rfl, rfl⟩ := h
    go_enter Try.func40, Try.ntmps40
    go_wp2
    go_quiet (fail)
    go_wp2
    go_ret
    exact ⟨_, rfl, Kd.R_nil _ _ _ _ _, (bend _).out.2.2, (bend _).out.1, (bend _).out.2.1⟩
  | false =>
    rw [if_neg (by decide)] at h
    by_cases hn : a1 < 0
    · rw [if_pos hn] at h
      simp only [Option.some.injEq, Prod.mk.injEq] at h
      obtain ⟨rfl, rfl, rfl⟩ := h
      have hnb : decide (a1 < 0) = true := decide_eq_true hn
      clear hn
      go_enter Try.func40, Try.ntmps40
      go_wp2
      go_quiet (fail)
      go_wp2
      go_ret
      exact ⟨_, rfl, Kd.R_nil _ _ _ _ _, (bend _).out.2.2, (bend _).out.1, (bend _).out.2.1⟩
    · rw [if_neg hn] at h
      have hnb : decide (a1 < 0) = false := decide_eq_false hn
      by_cases hm : a1 > wrap64 ((l.length : Int) - at_)
      · rw [if_pos hm] at h
        simp only [Option.some.injEq, Prod.mk.injEq] at h
        obtain ⟨rfl, rfl, rfl⟩ := h
        have hmb : decide (wrap64 ((l.length : Int) - at_) < a1) = true := decide_eq_true hm
        clear hn hm
        go_enter Try.func40, Try.ntmps40
        go_wp2
        go_quiet (fail)
        go_wp2
        go_ret
        exact ⟨_, rfl, Kd.R_nil _ _ _ _ _, (bend _).out.2.2, (bend _).out.1, (bend _).out.2.1⟩
      · rw [if_neg hm] at h
        have hmb : decide (wrap64 ((l.length : Int) - at_) < a1) = false := decide_eq_false hm
        by_cases hq : 0 ≤ at_ ∧ at_ + a1 ≤ (l.length : Int) ∧ l.length ≤ 140737488355328
        case neg => rw [if_neg hq] at h; cases h
        rw [if_pos hq] at h
        simp only [Option.some.injEq, Prod.mk.injEq] at h
        obtain ⟨rfl, rfl, rfl⟩ := h
        obtain ⟨q1, q2, q3⟩ := hq
        have hw : wrap64 (at_ + a1) = at_ + a1 := by
          unfold wrap64
          omega
        have hw2 : IntKind.i64.wrap (at_ + a1) = at_ + a1 := by
          simp only [i64_w]
          exact hw
        obtain ⟨A2, hA2⟩ : ∃ A2, (if c = at_.toNat then A else Option.map (fun x => x.add at_.toNat) A) = A2 := ⟨_, rfl⟩
        have d1 : (0 ≤ at_ + a1) = True := eq_true (by omega)
        have d2 : (at_ + a1 ≤ (c : Int)) = True := eq_true (by have := HC.out; omega)
        have d3 : (0 ≤ at_) = True := eq_true q1
        have d4 : (at_ ≤ max (at_ + a1) 0) = True := eq_true (by omega)
        have hCM := Kd.C_mid (lo := at_.toNat) (hi := (at_ + a1).toNat) HR.out (by omega) (by omega) HC.out
        have hCM2 : Kd.C (Kd.int .u8) w A2 ((l.take (at_ + a1).toNat).drop at_.toNat).length ((l.take (at_ + a1).toNat).drop at_.toNat) := by
          rw [← hA2]
          have z := hCM
          rw [show at_.toNat * (Kd.int .u8).sz = at_.toNat from Nat.mul_one _] at z
          exact z
        have hlen : ((l.take (at_ + a1).toNat).drop at_.toNat).length = (at_ + a1).toNat - at_.toNat := by
          rw [List.length_drop, List.length_take]
          omega
        have hcl : Hid (∀ W : World, Below w.heap.size w W → Calls Try.prog 45 #[.slice A2 ((at_ + a1).toNat - at_.toNat) (c - at_.toNat)] W fun e w' => ∃ v0_ : Value, e = .returned (v0_) ∧ Kd.R (Kd.int .u8) 5 w' W.heap.size (fun _ => True) v0_ ((l.take (at_ + a1).toNat).drop at_.toNat) ∧ Below W.heap.size W w') := Lib.hid (fun W hW => by
          have z := slices_Clone_byte_byte.calls A2 (c - at_.toNat) ((l.take (at_ + a1).toNat).drop at_.toNat) ((l.take (at_ + a1).toNat).drop at_.toNat) W (Kd.C_below hCM2 hW) (by rw [hlen]; have := HC.out; omega) (if_pos (by rw [hlen]; omega))
          rw [hlen] at z
          exact z)
        clear hn hm q1 q2 q3 hCM hCM2 hlen
        go_enter Try.func40, Try.ntmps40
        go_wp2
        go_quiet (fail)
        go_wp2
        have hb1 : Below w.heap.size w (w.drewN nq) := pw_below_drewN (Below.refl _ _) nq
        have s0 : (w.drewN nq).cell? ⟨g, 0, none⟩ = some (.slice A l.length c) := k0
        have s1 : (w.drewN nq).cell? ⟨g, 1, none⟩ = some (.int .i64 at_) := k1
        generalize w.drewN nq = w1 at hb1 s0 s1 ⊢
        refine wp_region_still_tail 15 (by kernel_rfl) (by kernel_rfl) ?_
        simp only [List.take_succ_cons, List.take_zero, List.drop_succ_cons, List.drop_zero]
        have hb2 : Below w.heap.size w ({ heap := w1.heap, tape := w1.tape, drawn := w1.drawn + 1, os := w1.os, output := w1.output } : World) := hb1.drew
        have t0 : ({ heap := w1.heap, tape := w1.tape, drawn := w1.drawn + 1, os := w1.os, output := w1.output } : World).cell? ⟨g, 0, none⟩ = some (.slice A l.length c) := s0
        have t1 : ({ heap := w1.heap, tape := w1.tape, drawn := w1.drawn + 1, os := w1.os, output := w1.output } : World).cell? ⟨g, 1, none⟩ = some (.int .i64 at_) := s1
        generalize ({ heap := w1.heap, tape := w1.tape, drawn := w1.drawn + 1, os := w1.os, output := w1.output } : World) = w2 at hb2 t0 t1 ⊢
        have HB2 := Lib.hid hb2
        clear hb1 hb2 s0 s1 k0 k1 k2 f1 f2
        repeat still_step
        try refine wpStill_nil ?_
        clear t0 t1
        go_wp2_with (first
          | (go_at_call 45; (with_reducible refine (hcl.out _ HB2.out).mono ?_); rintro e w' ⟨v0, rfl, ho, hb⟩; have HO := Lib.hid ho; have HBW := Lib.hid (HB2.out.trans (hb.mono HB2.out.size)); have hI2 := HI.out.below HBW.out; have HI2 := Lib.hid hI2; have k1 := blk_cell hI2.blk 1; have f1 := blk_frozen hI2.blk 1; simp at k1; have HSZ := Lib.hid HB2.out.size; clear ho hb hI2))
        go_ret
        exact ⟨_, rfl, (put_setCell _ ⟨g, 1, none⟩ _).R (Kd.R_lower HO.out HSZ.out) HI2.out.blk (by decide), HI2.out.setAt _, (HBW.out.mono (Nat.le_of_lt HGL.out)).setCell (Nat.le_refl _) _, (KeepBut.of_below HBW.out g none).set_ 1 _⟩

-- GIVEN rounds=0 making=0
/-! ### slices.IndexFunc and ContainsFunc of bytes, asked for what is no nought: by hand -/
def nzAt : List Int → Nat → Int
  | [], _ => -1
  | x :: r, i => if x = 0 then nzAt r (i + 1) else (i : Int)
theorem decode1_calls (c : Int) (w : World) : Calls Try.prog 42 #[.int .u8 c] w fun e w' => e = .returned (.bool (c != 0)) ∧ w' = w := by
  go_enter Try.func42, Try.ntmps42
  go_wp2
  go_ret
  exact ⟨by first | rfl | simp, rfl⟩
abbrev nzF : Value := .func (.func 42) #[] #[]
set_option maxHeartbeats 3200000 in
theorem indexFunc_calls (A : Option Addr) (c : Nat) (l : List Int) (w : World) (hr : Kd.C (Kd.int .u8) w A l.length l) (hl : l.length ≤ 9223372036854775806) :
    Calls Try.prog 50 #[.slice A l.length c, nzF] w fun e w' => e = .returned (.int .i64 (nzAt l 0)) ∧ w' = w := by
  have HR := Lib.hid hr
  have HL := Lib.hid hl
  clear hr hl
  go_enter Try.func50, Try.ntmps50
  go_wp2
  go_loopw [8] (fun v wr => ∃ q : Nat, q ≤ l.length ∧ v = .int .i64 (q : Int) ∧ Hid (nzAt l 0 = nzAt (l.drop q) q) ∧ wr = w) (fun v _ => l.length - (intOf v).toNat)
  case atStart => exact ⟨0, Nat.zero_le _, rfl, Lib.hid rfl, rfl⟩
  case round =>
    obtain ⟨q, hq, rfl, hz, rfl⟩ := hrel
    by_cases hlt : q < l.length
    · obtain ⟨ad, rfl, hc⟩ := Kd.at_int HR.out (q : Int) (by omega) (by omega)
      rw [Int.toNat_natCast] at hc
      have hd : l.drop q = rd l (q : Int) :: l.drop (q + 1) := by
        rw [List.drop_eq_getElem_cons hlt]
        congr 1
        unfold rd
        rw [Int.toNat_natCast, List.getD_eq_getElem?_getD, List.getElem?_eq_getElem hlt]
        rfl
      have HZ := Lib.hid (hz.out.trans (by rw [hd, nzAt]))
      have q0 : (0 : Int) ≤ (q : Int) := by omega
      have q1 : (q : Int) < (l.length : Int) := by omega
      have q2 : (q : Int) < 9223372036854775806 := by have := HL.out; omega
      generalize rd l (q : Int) = x at hc HZ
      clear hd hz
      by_cases hx : x = 0
      · have hxb : (x != 0) = false := by simp [hx]
        have hxc : (x == 0) = true := by simp [hx]
        have HN := Lib.hid (HZ.out.trans (if_pos hx))
        clear hx HZ
        go_wp2_with (first
          | (go_at_call 42; (with_reducible refine (decode1_calls x _).mono ?_); rintro e w' ⟨rfl, rfl⟩))
        go_roundw
        case rel => exact ⟨q + 1, by omega, by go_num, HN, by first | rfl | trivial⟩
        case measure => simp [intOf]; omega
      · have hxb : (x != 0) = true := by simp [hx]
        have hxc : (x == 0) = false := by simp [hx]
        have HN := Lib.hid (HZ.out.trans (if_neg hx))
        clear hx HZ
        go_wp2_with (first
          | (go_at_call 42; (with_reducible refine (decode1_calls x _).mono ?_); rintro e w' ⟨rfl, rfl⟩))
        go_ret
        exact ⟨by rw [HN.out]; first | done | rfl | simp, by first | rfl | trivial⟩
    · have q1 : ¬ (q : Int) < (l.length : Int) := by omega
      have HN := Lib.hid (hz.out.trans (by rw [List.drop_of_length_le (by omega), nzAt]))
      clear hz hlt
      go_wp2
      go_ret
      exact ⟨by rw [HN.out]; first | done | rfl | simp, by first | rfl | trivial⟩
set_option maxHeartbeats 1600000 in
theorem containsFunc_calls (A : Option Addr) (c : Nat) (l : List Int) (w : World) (hr : Kd.C (Kd.int .u8) w A l.length l) (hl : l.length ≤ 9223372036854775806) :
    Calls Try.prog 41 #[.slice A l.length c, nzF] w fun e w' => e = .returned (.bool (decide (0 ≤ nzAt l 0))) ∧ w' = w := by
  have HI := Lib.hid (fun W (hW : W = w) => by subst hW; exact indexFunc_calls A c l W hr hl : ∀ W, W = w → Calls Try.prog 50 #[.slice A l.length c, nzF] W fun e w' => e = .returned (.int .i64 (nzAt l 0)) ∧ w' = W)
  clear hr hl
  go_enter Try.func41, Try.ntmps41
  go_wp2_with (first
    | (go_at_call 50; (with_reducible refine (HI.out _ rfl).mono ?_); rintro e w' ⟨rfl, rfl⟩))
  go_ret
  exact ⟨by first | rfl | simp, rfl⟩

end Go.Proofs.Ytldoaommikclbaa.PScanObjects
