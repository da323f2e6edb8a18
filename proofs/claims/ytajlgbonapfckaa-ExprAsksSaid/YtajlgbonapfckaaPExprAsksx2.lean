-- LAID BY gprint.py: a scratch copy of the print, with functions that this session proved by hand among the printed ones
import Derived.Test.YtajlgbonapfckaaPExprAsksx0
import Derived.Test.YtajlgbonapfckaaPExprAsksx1
namespace Go.Proofs.Ytajlgbonapfckaa.PExprAsks
open Go.RowKit Go.Proofs.YtajlgbonapfckaaW.PrintWords Go.Proofs.YtajlgbonapfckaaW.PrintLast Go.Proofs.Ytajlgbonapfckaa.Conv Go.Proofs.YtajlgbonapfckaaW.PrintMore
attribute [local go_sem] max2_int min2_int max_two min_two max_three min_three max_four min_four gtr_less   -- for this text's walks alone
set_option linter.unusedVariables false
set_option linter.unusedSimpArgs false

/-! ### slices_BinarySearch_string_string: function 45 -/
def slices_BinarySearch_string_string.l0 : Nat → List ByteArray → ByteArray → Int → Int → Int → Option (Int × Bool)
  | 0, _, _, _, _, _ => none
  | k + 1, x0, x1, x6, x7, x8 => if x7 < x8 then (if 0 ≤ (wrap64 ((IntKind.u64.wrap (wrap64 (x7 + x8))) / 2)) then (if (wrap64 ((IntKind.u64.wrap (wrap64 (x7 + x8))) / 2)) < (x0.length : Int) then ((cmp_Less_string.f (rdOf ByteArray.empty x0 (wrap64 ((IntKind.u64.wrap (wrap64 (x7 + x8))) / 2))) x1).bind fun t115 => (if t115 = true then (slices_BinarySearch_string_string.l0 k x0 x1 x6 (wrap64 ((wrap64 ((IntKind.u64.wrap (wrap64 (x7 + x8))) / 2)) + 1)) x8) else (slices_BinarySearch_string_string.l0 k x0 x1 x6 x7 (wrap64 ((IntKind.u64.wrap (wrap64 (x7 + x8))) / 2))))) else (none)) else (none)) else (if x7 < x6 then (if 0 ≤ x7 then (if x7 < (x0.length : Int) then (if (rdOf ByteArray.empty x0 x7).toList = x1.toList then (some (x7, true)) else ((slices_isNaN_string.f (rdOf ByteArray.empty x0 x7)).bind fun t118 => (if t118 = true then ((slices_isNaN_string.f x1).bind fun t119 => (some (x7, t119))) else (some (x7, false))))) else (none)) else (none)) else (some (x7, false)))
def slices_BinarySearch_string_string.f (k : Nat) (l0 : List ByteArray) (a1 : ByteArray) : Option (Int × Bool) := slices_BinarySearch_string_string.l0 k l0 a1 (l0.length : Int) 0 (l0.length : Int)
theorem slices_BinarySearch_string_string.mono_l : ∀ k, (∀ y0 y1 y2 y3 y4, LeO (slices_BinarySearch_string_string.l0 k y0 y1 y2 y3 y4) (slices_BinarySearch_string_string.l0 (k + 1) y0 y1 y2 y3 y4))
  | 0 => fun _ _ _ _ _ r h => by simp [slices_BinarySearch_string_string.l0] at h
  | k + 1 => by
    have ih0 := slices_BinarySearch_string_string.mono_l k
    · intro y0 y1 y2 y3 y4
      unfold slices_BinarySearch_string_string.l0
      repeat' first
      | (with_reducible exact ih0 _ _ _ _ _)
      | (with_reducible exact LeO.refl _)
      | (with_reducible exact LeO.none _)
      | (with_reducible refine LeO.ite ?_ ?_)
      | (with_reducible refine LeO.bind ?_ (fun _ => ?_))
      | exact ih0 _ _ _ _ _
      | exact LeO.none _
      | refine LeO.ite ?_ ?_
      | refine LeO.bind ?_ (fun _ => ?_)
theorem slices_BinarySearch_string_string.mono : ∀ a0 a1 k, LeO (slices_BinarySearch_string_string.f k a0 a1) (slices_BinarySearch_string_string.f (k + 1) a0 a1) := by
  intro a0 a1 k
  have ih0 := slices_BinarySearch_string_string.mono_l k
  unfold slices_BinarySearch_string_string.f
  repeat' first
      | (with_reducible exact ih0 _ _ _ _ _)
      | (with_reducible exact LeO.refl _)
      | (with_reducible exact LeO.none _)
      | (with_reducible refine LeO.ite ?_ ?_)
      | (with_reducible refine LeO.bind ?_ (fun _ => ?_))
      | exact ih0 _ _ _ _ _
      | exact LeO.none _
      | refine LeO.ite ?_ ?_
      | refine LeO.bind ?_ (fun _ => ?_)
set_option maxHeartbeats 8000000 in
set_option maxRecDepth 100000 in
theorem slices_BinarySearch_string_string.calls (k : Nat) (A0 : Option Addr) (c0 : Nat) (l0 : List ByteArray) (a1 : ByteArray) (r1 : Int) (r2 : Bool) (w : World) (hr0 : Kd.C Kd.string w A0 l0.length l0) (hc0 : l0.length ≤ c0) (h : slices_BinarySearch_string_string.f k l0 a1 = some (r1, r2)) :
    Calls Try.prog 45 #[.slice A0 l0.length c0, .string a1] w fun e w' => e = .returned (.tuple #[.int .i64 r1, .bool r2]) ∧ Drawn0 w w' := by
  have HR0 := Aside0.mk hr0
  have HC0 := Aside0.mk hc0
  clear hr0 hc0
  have H : (slices_BinarySearch_string_string.l0 k l0 a1 (l0.length : Int) 0 (l0.length : Int)) = some (r1, r2) := h
  clear h
  have H' := Aside0.mk H
  clear H
  go_enter Try.func45, Try.ntmps45
  go_wp2
  go_loopg [7, 8] k (fun kq v7 v8 w' => ∃ (x7_1 : Int) (x8_1 : Int), v7 = .int .i64 x7_1 ∧ v8 = .int .i64 x8_1 ∧ Aside0 (slices_BinarySearch_string_string.l0 kq l0 a1 (l0.length : Int) x7_1 x8_1 = some (r1, r2)) ∧ Aside0 (kq ≤ k) ∧ Drawn0 w w')
  case atStart => exact ⟨(0), ((l0.length : Int)), (by first | rfl | (simp; done) | (simp [*]; done) | exact isEmpty_bne _), (by first | rfl | (simp; done) | (simp [*]; done) | exact isEmpty_bne _), H', ⟨Nat.le_refl _⟩, by repeat (first | exact Drawn0.refl _ | apply Drawn0.step)⟩
  case round =>
    clear H'
    try clear p2
    obtain ⟨x7_1, x8_1, rfl, rfl, HA, HK1, ⟨m1, rfl⟩⟩ := hrel
    cases gk with
    | zero => exact absurd HA.out (by simp [slices_BinarySearch_string_string.l0])
    | succ k1 =>
      have H := HA.out
      clear HA
      simp only [slices_BinarySearch_string_string.l0] at H
      by_cases c3 : x7_1 < x8_1
      · rw [if_pos c3] at H
        have c3b0 : decide (x7_1 < x8_1) = true := decide_eq_true c3
        clear c3
        obtain ⟨ji4, hji4⟩ : ∃ j_ : Int, (wrap64 ((IntKind.u64.wrap (wrap64 (x7_1 + x8_1))) / 2)) = j_ := ⟨_, rfl⟩
        replace H : (if 0 ≤ (ji4) then (if (ji4) < (l0.length : Int) then ((cmp_Less_string.f (rdOf ByteArray.empty l0 (ji4)) a1).bind fun t115 => (if t115 = true then (slices_BinarySearch_string_string.l0 k1 l0 a1 (l0.length : Int) (wrap64 ((ji4) + 1)) x8_1) else (slices_BinarySearch_string_string.l0 k1 l0 a1 (l0.length : Int) x7_1 ji4))) else (none)) else (none)) = some (r1, r2) := by first | (rw [hji4] at H; exact H) | (simp only [hji4] at H ⊢; exact H)
        have hji4w : (IntKind.i64.wrap ((IntKind.u64.wrap (wrap64 (x7_1 + x8_1))) / 2)) = ji4 := (i64_w _).trans hji4
        by_cases c5 : 0 ≤ (ji4)
        · rw [if_pos c5] at H
          have c5b0 : decide (0 ≤ (ji4)) = true := decide_eq_true c5
          clear c5
          by_cases c6 : (ji4) < (l0.length : Int)
          · rw [if_pos c6] at H
            have c6b0 : decide ((ji4) < (l0.length : Int)) = true := decide_eq_true c6
            clear c6
            replace H := Option.bind_eq_some_iff.mp H
            obtain ⟨t115, A70, H⟩ := H
            replace H : (if t115 = true then (slices_BinarySearch_string_string.l0 k1 l0 a1 (l0.length : Int) (wrap64 ((ji4) + 1)) x8_1) else (slices_BinarySearch_string_string.l0 k1 l0 a1 (l0.length : Int) x7_1 ji4)) = some (r1, r2) := H
            have A7 := Aside0.mk A70
            clear A70
            by_cases c8 : t115 = true
            · subst c8
              have H1 : (slices_BinarySearch_string_string.l0 k1 l0 a1 (l0.length : Int) (wrap64 ((ji4) + 1)) x8_1) = some (r1, r2) := by rw [if_pos rfl] at H; exact H
              clear H
              have H := H1
              clear H1
              have H' := Aside0.mk H
              clear H
              have p114 : 0 ≤ ((ji4) : Int) := of_decide_eq_true (by first | (with_reducible assumption) | assumption)
              have q114 : (ji4) < (l0.length : Int) := of_decide_eq_true (by first | (with_reducible assumption) | assumption)
              obtain ⟨ad114, e114, hx114_0⟩ := Kd.at_string HR0.out (ji4) p114 q114
              cases e114
              replace p114 := eq_true p114
              replace q114 := eq_true q114
              go_wp2_with (first | ((with_reducible refine gate_callee (f := 51) rfl ?_); refine goesL_ (some 27) rfl rfl Try.func51 (by kernel_rfl) rfl #[.string (rdOf ByteArray.empty l0 (ji4)), .string a1] rfl (by (try simp only [List.map_toArray, List.map_cons, List.map_nil]); first | done | (simp only [hji4]; rfl) | rfl | (simp only [List.length_drop, List.length_take]; rfl)) ?_; (with_reducible refine (cmp_Less_string.calls (rdOf ByteArray.empty l0 (ji4)) a1 true _ A7.out).mono ?_); rintro e w' ⟨rfl, ⟨nd, rfl⟩⟩; refine ⟨_, rfl, ?_⟩))
              go_roundg k1
              case measure => have := HK1.out; omega
              case rel => first | exact ⟨(wrap64 ((ji4) + 1)), (x8_1), (by first | rfl | (simp; done) | (simp only [← hji4] <;> (first | rfl | simp)) | (simp [*]; done)), (by first | rfl | (simp; done) | (simp [*]; done) | exact isEmpty_bne _), H', ⟨by have := HK1.out; omega⟩, by repeat (first | exact Drawn0.refl _ | apply Drawn0.step)⟩ | (subst hji4; exact ⟨(wrap64 ((ji4) + 1)), (x8_1), (by first | rfl | (simp; done) | (simp only [← hji4] <;> (first | rfl | simp)) | (simp [*]; done)), (by first | rfl | (simp; done) | (simp [*]; done) | exact isEmpty_bne _), H', ⟨by have := HK1.out; omega⟩, by repeat (first | exact Drawn0.refl _ | apply Drawn0.step)⟩)
            · replace c8 := Bool.eq_false_iff.mpr c8
              subst c8
              have H1 : (slices_BinarySearch_string_string.l0 k1 l0 a1 (l0.length : Int) x7_1 ji4) = some (r1, r2) := by rw [if_neg (show ¬ (false = true) by decide)] at H; exact H
              clear H
              have H := H1
              clear H1
              have H' := Aside0.mk H
              clear H
              have p114 : 0 ≤ ((ji4) : Int) := of_decide_eq_true (by first | (with_reducible assumption) | assumption)
              have q114 : (ji4) < (l0.length : Int) := of_decide_eq_true (by first | (with_reducible assumption) | assumption)
              obtain ⟨ad114, e114, hx114_0⟩ := Kd.at_string HR0.out (ji4) p114 q114
              cases e114
              replace p114 := eq_true p114
              replace q114 := eq_true q114
              go_wp2_with (first | ((with_reducible refine gate_callee (f := 51) rfl ?_); refine goesL_ (some 27) rfl rfl Try.func51 (by kernel_rfl) rfl #[.string (rdOf ByteArray.empty l0 (ji4)), .string a1] rfl (by (try simp only [List.map_toArray, List.map_cons, List.map_nil]); first | done | (simp only [hji4]; rfl) | rfl | (simp only [List.length_drop, List.length_take]; rfl)) ?_; (with_reducible refine (cmp_Less_string.calls (rdOf ByteArray.empty l0 (ji4)) a1 false _ A7.out).mono ?_); rintro e w' ⟨rfl, ⟨nd, rfl⟩⟩; refine ⟨_, rfl, ?_⟩))
              go_roundg k1
              case measure => have := HK1.out; omega
              case rel => first | exact ⟨(x7_1), (ji4), (by first | rfl | (simp; done) | (simp [*]; done) | exact isEmpty_bne _), (by first | rfl | (simp; done) | (simp only [← hji4] <;> (first | rfl | simp)) | (simp [*]; done)), H', ⟨by have := HK1.out; omega⟩, by repeat (first | exact Drawn0.refl _ | apply Drawn0.step)⟩ | (subst hji4; exact ⟨(x7_1), (ji4), (by first | rfl | (simp; done) | (simp [*]; done) | exact isEmpty_bne _), (by first | rfl | (simp; done) | (simp only [← hji4] <;> (first | rfl | simp)) | (simp [*]; done)), H', ⟨by have := HK1.out; omega⟩, by repeat (first | exact Drawn0.refl _ | apply Drawn0.step)⟩)
          · rw [if_neg c6] at H
            exact absurd H (by simp)
        · rw [if_neg c5] at H
          exact absurd H (by simp)
      · rw [if_neg c3] at H
        have c3b0 : decide (x7_1 < x8_1) = false := decide_eq_false c3
        clear c3
        by_cases c9 : x7_1 < (l0.length : Int)
        · rw [if_pos c9] at H
          have c9b0 : decide (x7_1 < (l0.length : Int)) = true := decide_eq_true c9
          clear c9
          by_cases c10 : 0 ≤ x7_1
          · rw [if_pos c10] at H
            have c10b0 : decide (0 ≤ x7_1) = true := decide_eq_true c10
            clear c10
            by_cases c11 : x7_1 < (l0.length : Int)
            · rw [if_pos c11] at H
              have c11b0 : decide (x7_1 < (l0.length : Int)) = true := decide_eq_true c11
              clear c11
              by_cases c12 : (rdOf ByteArray.empty l0 x7_1).toList = a1.toList
              · rw [if_pos c12] at H
                have c12b0 : ((rdOf ByteArray.empty l0 x7_1).toList == a1.toList) = true := beq_iff_eq.mpr c12
                have c12b1 : ((rdOf ByteArray.empty l0 x7_1).toList != a1.toList) = false := bne_eq_false_iff_eq.mpr c12
                clear c12
                simp only [Option.some.injEq, Prod.mk.injEq] at H
                obtain ⟨rfl, rfl⟩ := H
                have p116 : 0 ≤ (x7_1 : Int) := of_decide_eq_true (by first | (with_reducible assumption) | assumption)
                have q116 : x7_1 < (l0.length : Int) := of_decide_eq_true (by first | (with_reducible assumption) | assumption)
                obtain ⟨ad116, e116, hx116_0⟩ := Kd.at_string HR0.out x7_1 p116 q116
                cases e116
                replace p116 := eq_true p116
                replace q116 := eq_true q116
                go_wp2
                go_ret2
                exact ⟨by first | rfl | (simp; done) | (simp [*]; done) | exact isEmpty_bne _, by repeat (first | exact Drawn0.refl _ | apply Drawn0.step)⟩
              · rw [if_neg c12] at H
                have c12b0 : ((rdOf ByteArray.empty l0 x7_1).toList == a1.toList) = false := beq_eq_false_iff_ne.mpr c12
                have c12b1 : ((rdOf ByteArray.empty l0 x7_1).toList != a1.toList) = true := bne_iff_ne.mpr c12
                replace H := Option.bind_eq_some_iff.mp H
                obtain ⟨t118, A130, H⟩ := H
                replace H : (if t118 = true then ((slices_isNaN_string.f a1).bind fun t119 => (some (x7_1, t119))) else (some (x7_1, false))) = some (r1, r2) := H
                have A13 := Aside0.mk A130
                clear A130
                by_cases c14 : t118 = true
                · subst c14
                  have H1 : ((slices_isNaN_string.f a1).bind fun t119 => (some (x7_1, t119))) = some (r1, r2) := by rw [if_pos rfl] at H; exact H
                  clear H
                  have H := H1
                  clear H1
                  replace H := Option.bind_eq_some_iff.mp H
                  obtain ⟨t119, A150, H⟩ := H
                  replace H : (some (x7_1, t119)) = some (r1, r2) := H
                  have A15 := Aside0.mk A150
                  clear A150
                  simp only [Option.some.injEq, Prod.mk.injEq] at H
                  obtain ⟨rfl, rfl⟩ := H
                  have p116 : 0 ≤ (x7_1 : Int) := of_decide_eq_true (by first | (with_reducible assumption) | assumption)
                  have q116 : x7_1 < (l0.length : Int) := of_decide_eq_true (by first | (with_reducible assumption) | assumption)
                  obtain ⟨ad116, e116, hx116_0⟩ := Kd.at_string HR0.out x7_1 p116 q116
                  cases e116
                  replace p116 := eq_true p116
                  replace q116 := eq_true q116
                  have p117 : 0 ≤ (x7_1 : Int) := of_decide_eq_true (by first | (with_reducible assumption) | assumption)
                  have q117 : x7_1 < (l0.length : Int) := of_decide_eq_true (by first | (with_reducible assumption) | assumption)
                  obtain ⟨ad117, e117, hx117_0⟩ := Kd.at_string HR0.out x7_1 p117 q117
                  obtain rfl : ad116 = ad117 := (by injection e117)
                  replace p117 := eq_true p117
                  replace q117 := eq_true q117
                  go_wp2_with (first | (go_at_call 52; (with_reducible refine (slices_isNaN_string.calls (rdOf ByteArray.empty l0 x7_1) true _ A13.out).mono ?_); rintro e w' ⟨rfl, ⟨nd, rfl⟩⟩) | (go_at_call 52; (with_reducible refine (slices_isNaN_string.calls a1 t119 _ A15.out).mono ?_); rintro e w' ⟨rfl, ⟨nd, rfl⟩⟩))
                  go_ret2
                  exact ⟨by first | rfl | (simp; done) | (simp [*]; done) | exact isEmpty_bne _, by repeat (first | exact Drawn0.refl _ | apply Drawn0.step)⟩
                · replace c14 := Bool.eq_false_iff.mpr c14
                  subst c14
                  have H1 : (some (x7_1, false)) = some (r1, r2) := by rw [if_neg (show ¬ (false = true) by decide)] at H; exact H
                  clear H
                  have H := H1
                  clear H1
                  simp only [Option.some.injEq, Prod.mk.injEq] at H
                  obtain ⟨rfl, rfl⟩ := H
                  have p116 : 0 ≤ (x7_1 : Int) := of_decide_eq_true (by first | (with_reducible assumption) | assumption)
                  have q116 : x7_1 < (l0.length : Int) := of_decide_eq_true (by first | (with_reducible assumption) | assumption)
                  obtain ⟨ad116, e116, hx116_0⟩ := Kd.at_string HR0.out x7_1 p116 q116
                  cases e116
                  replace p116 := eq_true p116
                  replace q116 := eq_true q116
                  have p117 : 0 ≤ (x7_1 : Int) := of_decide_eq_true (by first | (with_reducible assumption) | assumption)
                  have q117 : x7_1 < (l0.length : Int) := of_decide_eq_true (by first | (with_reducible assumption) | assumption)
                  obtain ⟨ad117, e117, hx117_0⟩ := Kd.at_string HR0.out x7_1 p117 q117
                  obtain rfl : ad116 = ad117 := (by injection e117)
                  replace p117 := eq_true p117
                  replace q117 := eq_true q117
                  go_wp2_with (first | (go_at_call 52; (with_reducible refine (slices_isNaN_string.calls (rdOf ByteArray.empty l0 x7_1) false _ A13.out).mono ?_); rintro e w' ⟨rfl, ⟨nd, rfl⟩⟩))
                  go_ret2
                  exact ⟨by first | rfl | (simp; done) | (simp [*]; done) | exact isEmpty_bne _, by repeat (first | exact Drawn0.refl _ | apply Drawn0.step)⟩
            · rw [if_neg c11] at H
              exact absurd H (by simp)
          · rw [if_neg c10] at H
            exact absurd H (by simp)
        · rw [if_neg c9] at H
          have c9b0 : decide (x7_1 < (l0.length : Int)) = false := decide_eq_false c9
          clear c9
          simp only [Option.some.injEq, Prod.mk.injEq] at H
          obtain ⟨rfl, rfl⟩ := H
          go_wp2
          go_ret2
          exact ⟨by first | rfl | (simp; done) | (simp [*]; done) | exact isEmpty_bne _, by repeat (first | exact Drawn0.refl _ | apply Drawn0.step)⟩

/-! ### item_Has: function 37 -/
def item_Has.f (k : Nat) (l0 : List ByteArray) (a1 : ByteArray) : Option (Bool) := (slices_BinarySearch_string_string.f k l0 a1).bind fun bt120 => (some bt120.2)
theorem item_Has.mono : ∀ a0 a1 k, LeO (item_Has.f k a0 a1) (item_Has.f (k + 1) a0 a1) := by
  intro a0 a1 k
  unfold item_Has.f
  repeat' first
      | (with_reducible exact slices_BinarySearch_string_string.mono _ _ _)
      | (with_reducible exact LeO.refl _)
      | (with_reducible exact LeO.none _)
      | (with_reducible refine LeO.ite ?_ ?_)
      | (with_reducible refine LeO.bind ?_ (fun _ => ?_))
      | exact slices_BinarySearch_string_string.mono _ _ _
      | exact LeO.none _
      | refine LeO.ite ?_ ?_
      | refine LeO.bind ?_ (fun _ => ?_)
set_option maxHeartbeats 8000000 in
set_option maxRecDepth 100000 in
theorem item_Has.calls (k : Nat) (A0 : Option Addr) (c0 : Nat) (l0 : List ByteArray) (a1 : ByteArray) (r : Bool) (w : World) (hr0 : Kd.C Kd.string w A0 l0.length l0) (hc0 : l0.length ≤ c0) (h : item_Has.f k l0 a1 = some r) :
    Calls Try.prog 37 #[.slice A0 l0.length c0, .string a1] w fun e w' => e = .returned (.bool r) ∧ Drawn0 w w' := by
  have HR0 := Aside0.mk hr0
  have HC0 := Aside0.mk hc0
  clear hr0 hc0
  have H : ((slices_BinarySearch_string_string.f k l0 a1).bind fun bt120 => (some bt120.2)) = some r := h
  clear h
  replace H := Option.bind_eq_some_iff.mp H
  obtain ⟨⟨t120, t121⟩, A30, H⟩ := H
  replace H : (some t121) = some r := H
  have A3 := Aside0.mk A30
  clear A30
  obtain rfl := Option.some.inj H
  go_enter Try.func37, Try.ntmps37
  go_wp2_with (first | ((with_reducible refine gate_callee (f := 45) rfl ?_); refine goesL_ (some 10) rfl rfl Try.func45 (by kernel_rfl) rfl #[.slice A0 l0.length c0, .string a1] rfl (by (try simp only [List.map_toArray, List.map_cons, List.map_nil]); first | done | rfl | (simp only [List.length_drop, List.length_take]; rfl)) ?_; (with_reducible refine (slices_BinarySearch_string_string.calls k _ _ l0 a1 t120 t121 _ ?side1 ?side2 A3.out).mono ?_); (case side1 => repeat (first | exact HR0.out | (with_reducible refine Kd.C_alloc ?_ _) | (with_reducible refine Kd.C_drewN ?_ _) | (with_reducible refine Kd.C_drew ?_))); (case side2 => exact HC0.out); rintro e w' ⟨rfl, ⟨nd, rfl⟩⟩; refine ⟨_, rfl, ?_⟩))
  go_ret
  exact ⟨by first | rfl | (simp; done) | (simp [*]; done) | exact isEmpty_bne _, by repeat (first | exact Drawn0.refl _ | apply Drawn0.step)⟩

/-! ### expr_choice: function 27 -/
mutual
def expr_choice.l0 : Nat → List ByteArray → List ByteArray → Int → Option (Bool)
  | 0, _, _, _ => none
  | k + 1, x0, x1, x5 => if x5 < (x0.length : Int) then (if 0 ≤ x5 then ((item_Field.f (rdOf ByteArray.empty x0 x5)).bind fun t123 => (expr_choice.l1 k x0 x1 x5 t123 false)) else (none)) else (some true)
def expr_choice.l1 : Nat → List ByteArray → List ByteArray → Int → ByteArray → Bool → Option (Bool)
  | 0, _, _, _, _, _ => none
  | k + 1, x0, x1, x5, x6, x7 => if x5 < (x0.length : Int) then (if 0 ≤ x5 then ((item_Field.f (rdOf ByteArray.empty x0 x5)).bind fun t125 => (if t125.toList = x6.toList then (if x7 = true then (expr_choice.l1 k x0 x1 (wrap64 (x5 + 1)) x6 true) else ((item_Has.f k x1 (rdOf ByteArray.empty x0 x5)).bind fun t127 => (expr_choice.l1 k x0 x1 (wrap64 (x5 + 1)) x6 t127))) else (if x7 = true then (expr_choice.l0 k x0 x1 x5) else (some false)))) else (none)) else (if x7 = true then (expr_choice.l0 k x0 x1 x5) else (some false))
end
def expr_choice.f (k : Nat) (l0 : List ByteArray) (l1 : List ByteArray) : Option (Bool) := expr_choice.l0 k l0 l1 0
theorem expr_choice.mono_l : ∀ k, (∀ y0 y1 y2, LeO (expr_choice.l0 k y0 y1 y2) (expr_choice.l0 (k + 1) y0 y1 y2)) ∧ (∀ y0 y1 y2 y3 y4, LeO (expr_choice.l1 k y0 y1 y2 y3 y4) (expr_choice.l1 (k + 1) y0 y1 y2 y3 y4))
  | 0 => ⟨fun _ _ _ r h => by simp [expr_choice.l0] at h, fun _ _ _ _ _ r h => by simp [expr_choice.l1] at h⟩
  | k + 1 => by
    obtain ⟨ih0, ih1⟩ := expr_choice.mono_l k
    refine ⟨?_, ?_⟩
    · intro y0 y1 y2
      unfold expr_choice.l0
      repeat' first
      | (with_reducible exact ih0 _ _ _)
      | (with_reducible exact ih1 _ _ _ _ _)
      | (with_reducible exact item_Has.mono _ _ _)
      | (with_reducible exact LeO.refl _)
      | (with_reducible exact LeO.none _)
      | (with_reducible refine LeO.ite ?_ ?_)
      | (with_reducible refine LeO.bind ?_ (fun _ => ?_))
      | exact ih0 _ _ _
      | exact ih1 _ _ _ _ _
      | exact item_Has.mono _ _ _
      | exact LeO.none _
      | refine LeO.ite ?_ ?_
      | refine LeO.bind ?_ (fun _ => ?_)
    · intro y0 y1 y2 y3 y4
      unfold expr_choice.l1
      repeat' first
      | (with_reducible exact ih0 _ _ _)
      | (with_reducible exact ih1 _ _ _ _ _)
      | (with_reducible exact item_Has.mono _ _ _)
      | (with_reducible exact LeO.refl _)
      | (with_reducible exact LeO.none _)
      | (with_reducible refine LeO.ite ?_ ?_)
      | (with_reducible refine LeO.bind ?_ (fun _ => ?_))
      | exact ih0 _ _ _
      | exact ih1 _ _ _ _ _
      | exact item_Has.mono _ _ _
      | exact LeO.none _
      | refine LeO.ite ?_ ?_
      | refine LeO.bind ?_ (fun _ => ?_)
theorem expr_choice.mono : ∀ a0 a1 k, LeO (expr_choice.f k a0 a1) (expr_choice.f (k + 1) a0 a1) := by
  intro a0 a1 k
  obtain ⟨ih0, ih1⟩ := expr_choice.mono_l k
  unfold expr_choice.f
  repeat' first
      | (with_reducible exact ih0 _ _ _)
      | (with_reducible exact ih1 _ _ _ _ _)
      | (with_reducible exact item_Has.mono _ _ _)
      | (with_reducible exact LeO.refl _)
      | (with_reducible exact LeO.none _)
      | (with_reducible refine LeO.ite ?_ ?_)
      | (with_reducible refine LeO.bind ?_ (fun _ => ?_))
      | exact ih0 _ _ _
      | exact ih1 _ _ _ _ _
      | exact item_Has.mono _ _ _
      | exact LeO.none _
      | refine LeO.ite ?_ ?_
      | refine LeO.bind ?_ (fun _ => ?_)
set_option maxHeartbeats 8000000 in
set_option maxRecDepth 100000 in
theorem expr_choice.calls (k : Nat) (A0 : Option Addr) (c0 : Nat) (l0 : List ByteArray) (A1 : Option Addr) (c1 : Nat) (l1 : List ByteArray) (r : Bool) (w : World) (hr0 : Kd.C Kd.string w A0 l0.length l0) (hc0 : l0.length ≤ c0) (hr1 : Kd.C Kd.string w A1 l1.length l1) (hc1 : l1.length ≤ c1) (h : expr_choice.f k l0 l1 = some r) :
    Calls Try.prog 27 #[.slice A0 l0.length c0, .slice A1 l1.length c1] w fun e w' => e = .returned (.bool r) ∧ Below w.heap.size w w' := by
  have HR0 := Aside0.mk hr0
  have HC0 := Aside0.mk hc0
  clear hr0 hc0
  have HR1 := Aside0.mk hr1
  have HC1 := Aside0.mk hc1
  clear hr1 hc1
  have HB := Aside0.mk (Below.refl w.heap.size w)
  have H : (expr_choice.l0 k l0 l1 0) = some r := h
  clear h
  have H' := Aside0.mk H
  clear H
  go_enter Try.func27, Try.ntmps27
  go_wp2
  go_loopg [5] k (fun kq v5 w' => ∃ (x5_1 : Int), v5 = .int .i64 x5_1 ∧ Aside0 (expr_choice.l0 kq l0 l1 x5_1 = some r) ∧ Aside0 (kq ≤ k) ∧ Aside0 (Below w.heap.size w w'))
  case atStart => exact ⟨(0), (by first | rfl | (simp; done) | (simp [*]; done) | exact isEmpty_bne _), H', ⟨Nat.le_refl _⟩, ⟨by repeat (first | (with_reducible first | exact HB.out | apply below_alloc | apply pw_below_drewN | apply below_drew1) | exact HB.out)⟩⟩
  case round =>
    clear H'
    try clear c1
    try clear c2
    try clear p2
    obtain ⟨x5_1, rfl, HA, HK1, HB⟩ := hrel
    cases gk with
    | zero => exact absurd HA.out (by simp [expr_choice.l0])
    | succ k1 =>
      have H := HA.out
      clear HA
      simp only [expr_choice.l0] at H
      by_cases c3 : x5_1 < (l0.length : Int)
      · rw [if_pos c3] at H
        have c3b0 : decide (x5_1 < (l0.length : Int)) = true := decide_eq_true c3
        clear c3
        by_cases c4 : 0 ≤ x5_1
        · rw [if_pos c4] at H
          have c4b0 : decide (0 ≤ x5_1) = true := decide_eq_true c4
          clear c4
          replace H := Option.bind_eq_some_iff.mp H
          obtain ⟨t123, A50, H⟩ := H
          replace H : (expr_choice.l1 k1 l0 l1 x5_1 t123 false) = some r := H
          have A5 := Aside0.mk A50
          clear A50
          have H' := Aside0.mk H
          clear H
          have p122 : 0 ≤ (x5_1 : Int) := of_decide_eq_true (by first | (with_reducible assumption) | assumption)
          have q122 : x5_1 < (l0.length : Int) := of_decide_eq_true (by first | (with_reducible assumption) | assumption)
          obtain ⟨ad122, e122, hx122_0⟩ := Kd.at_string HR0.out x5_1 p122 q122
          cases e122
          replace hx122_0 := (HB.out.cell (World.block_lt_of_cell? w _ hx122_0)).trans hx122_0
          replace p122 := eq_true p122
          replace q122 := eq_true q122
          go_wp2_with (first | ((with_reducible refine gate_callee (f := 33) rfl ?_); refine goesL_ (some 16) rfl rfl Try.func33 (by kernel_rfl) rfl #[.string (rdOf ByteArray.empty l0 x5_1)] rfl (by (try simp only [List.map_toArray, List.map_cons, List.map_nil]); first | done | rfl | (simp only [List.length_drop, List.length_take]; rfl)) ?_; (with_reducible refine (item_Field.calls (rdOf ByteArray.empty l0 x5_1) t123 _ A5.out).mono ?_); rintro e w6 ⟨rfl, hb⟩; refine ⟨_, rfl, ?_⟩; have n0_ := Aside0.mk (below_step (by repeat (first | (with_reducible first | exact HB.out | apply below_alloc | apply pw_below_drewN | apply below_drew1) | exact HB.out)) hb); clear HB; have HB := n0_; clear n0_; (try clear hb); (try clear hb2); (try clear hk); (try clear hi)))
          go_loopg [5, 7] k1 (fun kq v5 v7 w' => ∃ (x5_2 : Int) (x7_2 : Bool), v5 = .int .i64 x5_2 ∧ v7 = .bool x7_2 ∧ Aside0 (expr_choice.l1 kq l0 l1 x5_2 t123 x7_2 = some r) ∧ Aside0 (kq ≤ k1) ∧ Aside0 (Below w.heap.size w w'))
          case atStart => exact ⟨(x5_1), (false), (by first | rfl | (simp; done) | (simp [*]; done) | exact isEmpty_bne _), (by first | rfl | (simp; done) | (simp [*]; done) | exact isEmpty_bne _), H', ⟨Nat.le_refl _⟩, ⟨by repeat (first | (with_reducible first | exact HB.out | apply below_alloc | apply pw_below_drewN | apply below_drew1) | exact HB.out)⟩⟩
          case round =>
            clear H'
            try clear c1
            try clear p1
            try clear q1
            try clear hx1
            try clear c2
            try clear p2
            try clear c3
            try clear c3b0
            try clear c4
            try clear c4b0
            try clear hx122_0
            try clear p122
            try clear p2
            try clear q122
            obtain ⟨x5_2, x7_2, rfl, rfl, HA, HK2, HB⟩ := hrel
            cases gk with
            | zero => exact absurd HA.out (by simp [expr_choice.l1])
            | succ k2 =>
              have H := HA.out
              clear HA
              simp only [expr_choice.l1] at H
              by_cases c7 : x5_2 < (l0.length : Int)
              · rw [if_pos c7] at H
                have c7b0 : decide (x5_2 < (l0.length : Int)) = true := decide_eq_true c7
                clear c7
                by_cases c8 : 0 ≤ x5_2
                · rw [if_pos c8] at H
                  have c8b0 : decide (0 ≤ x5_2) = true := decide_eq_true c8
                  clear c8
                  replace H := Option.bind_eq_some_iff.mp H
                  obtain ⟨t125, A90, H⟩ := H
                  replace H : (if t125.toList = t123.toList then (if x7_2 = true then (expr_choice.l1 k2 l0 l1 (wrap64 (x5_2 + 1)) t123 true) else ((item_Has.f k2 l1 (rdOf ByteArray.empty l0 x5_2)).bind fun t127 => (expr_choice.l1 k2 l0 l1 (wrap64 (x5_2 + 1)) t123 t127))) else (if x7_2 = true then (expr_choice.l0 k2 l0 l1 x5_2) else (some false))) = some r := H
                  have A9 := Aside0.mk A90
                  clear A90
                  by_cases c10 : t125.toList = t123.toList
                  · rw [if_pos c10] at H
                    have c10b0 : (t125.toList == t123.toList) = true := beq_iff_eq.mpr c10
                    have c10b1 : (t125.toList != t123.toList) = false := bne_eq_false_iff_eq.mpr c10
                    clear c10
                    by_cases c11 : x7_2 = true
                    · subst c11
                      have H1 : (expr_choice.l1 k2 l0 l1 (wrap64 (x5_2 + 1)) t123 true) = some r := by rw [if_pos rfl] at H; exact H
                      clear H
                      have H := H1
                      clear H1
                      have H' := Aside0.mk H
                      clear H
                      have p124 : 0 ≤ (x5_2 : Int) := of_decide_eq_true (by first | (with_reducible assumption) | assumption)
                      have q124 : x5_2 < (l0.length : Int) := of_decide_eq_true (by first | (with_reducible assumption) | assumption)
                      obtain ⟨ad124, e124, hx124_0⟩ := Kd.at_string HR0.out x5_2 p124 q124
                      obtain rfl : ad122 = ad124 := (by injection e124)
                      replace hx124_0 := (HB.out.cell (World.block_lt_of_cell? w _ hx124_0)).trans hx124_0
                      replace p124 := eq_true p124
                      replace q124 := eq_true q124
                      go_wp2_with (first | (go_at_call 33; (with_reducible refine (item_Field.calls (rdOf ByteArray.empty l0 x5_2) t125 _ A9.out).mono ?_); rintro e w12 ⟨rfl, hb⟩; have n0_ := Aside0.mk (below_step (by repeat (first | (with_reducible first | exact HB.out | apply below_alloc | apply pw_below_drewN | apply below_drew1) | exact HB.out)) hb); clear HB; have HB := n0_; clear n0_; (try clear hb); (try clear hb2); (try clear hk); (try clear hi)))
                      go_roundg k2
                      case measure => have := HK1.out; have := HK2.out; omega
                      case rel => exact ⟨(wrap64 (x5_2 + 1)), (true), (by first | rfl | (simp; done) | (simp [*]; done) | exact isEmpty_bne _), (by first | rfl | (simp; done) | (simp [*]; done) | exact isEmpty_bne _), H', ⟨by have := HK1.out; have := HK2.out; omega⟩, ⟨by repeat (first | (with_reducible first | exact HB.out | apply below_alloc | apply pw_below_drewN | apply below_drew1) | exact HB.out)⟩⟩
                    · replace c11 := Bool.eq_false_iff.mpr c11
                      subst c11
                      have H1 : ((item_Has.f k2 l1 (rdOf ByteArray.empty l0 x5_2)).bind fun t127 => (expr_choice.l1 k2 l0 l1 (wrap64 (x5_2 + 1)) t123 t127)) = some r := by rw [if_neg (show ¬ (false = true) by decide)] at H; exact H
                      clear H
                      have H := H1
                      clear H1
                      replace H := Option.bind_eq_some_iff.mp H
                      obtain ⟨t127, A130, H⟩ := H
                      replace H : (expr_choice.l1 k2 l0 l1 (wrap64 (x5_2 + 1)) t123 t127) = some r := H
                      have A13 := Aside0.mk A130
                      clear A130
                      have H' := Aside0.mk H
                      clear H
                      have p124 : 0 ≤ (x5_2 : Int) := of_decide_eq_true (by first | (with_reducible assumption) | assumption)
                      have q124 : x5_2 < (l0.length : Int) := of_decide_eq_true (by first | (with_reducible assumption) | assumption)
                      obtain ⟨ad124, e124, hx124_0⟩ := Kd.at_string HR0.out x5_2 p124 q124
                      obtain rfl : ad122 = ad124 := (by injection e124)
                      replace hx124_0 := (HB.out.cell (World.block_lt_of_cell? w _ hx124_0)).trans hx124_0
                      replace p124 := eq_true p124
                      replace q124 := eq_true q124
                      go_wp2_with (first | (go_at_call 33; (with_reducible refine (item_Field.calls (rdOf ByteArray.empty l0 x5_2) t125 _ A9.out).mono ?_); rintro e w14 ⟨rfl, hb⟩; have n0_ := Aside0.mk (below_step (by repeat (first | (with_reducible first | exact HB.out | apply below_alloc | apply pw_below_drewN | apply below_drew1) | exact HB.out)) hb); clear HB; have HB := n0_; clear n0_; (try clear hb); (try clear hb2); (try clear hk); (try clear hi); have p126 : 0 ≤ (x5_2 : Int) := of_decide_eq_true (by first | (with_reducible assumption) | assumption); have q126 : x5_2 < (l0.length : Int) := of_decide_eq_true (by first | (with_reducible assumption) | assumption); obtain ⟨ad126, e126, hx126_0⟩ := Kd.at_string HR0.out x5_2 p126 q126; obtain rfl : ad122 = ad126 := (by injection e126); replace hx126_0 := (HB.out.cell (World.block_lt_of_cell? w _ hx126_0)).trans hx126_0; replace p126 := eq_true p126; replace q126 := eq_true q126) | (go_at_call 37; (with_reducible refine (item_Has.calls k2 _ _ l1 (rdOf ByteArray.empty l0 x5_2) t127 _ ?side1 ?side2 A13.out).mono ?_); (case side1 => repeat (first | exact (Kd.C_below HR1.out HB.out) | (with_reducible refine Kd.C_alloc ?_ _) | (with_reducible refine Kd.C_drewN ?_ _) | (with_reducible refine Kd.C_drew ?_))); (case side2 => exact HC1.out); rintro e w' ⟨rfl, ⟨nd, rfl⟩⟩))
                      go_roundg k2
                      case measure => have := HK1.out; have := HK2.out; omega
                      case rel => exact ⟨(wrap64 (x5_2 + 1)), (t127), (by first | rfl | (simp; done) | (simp [*]; done) | exact isEmpty_bne _), (by first | rfl | (simp; done) | (simp [*]; done) | exact isEmpty_bne _), H', ⟨by have := HK1.out; have := HK2.out; omega⟩, ⟨by repeat (first | (with_reducible first | exact HB.out | apply below_alloc | apply pw_below_drewN | apply below_drew1) | exact HB.out)⟩⟩
                  · rw [if_neg c10] at H
                    have c10b0 : (t125.toList == t123.toList) = false := beq_eq_false_iff_ne.mpr c10
                    have c10b1 : (t125.toList != t123.toList) = true := bne_iff_ne.mpr c10
                    by_cases c15 : x7_2 = true
                    · subst c15
                      have H1 : (expr_choice.l0 k2 l0 l1 x5_2) = some r := by rw [if_pos rfl] at H; exact H
                      clear H
                      have H := H1
                      clear H1
                      have H' := Aside0.mk H
                      clear H
                      have p124 : 0 ≤ (x5_2 : Int) := of_decide_eq_true (by first | (with_reducible assumption) | assumption)
                      have q124 : x5_2 < (l0.length : Int) := of_decide_eq_true (by first | (with_reducible assumption) | assumption)
                      obtain ⟨ad124, e124, hx124_0⟩ := Kd.at_string HR0.out x5_2 p124 q124
                      obtain rfl : ad122 = ad124 := (by injection e124)
                      replace hx124_0 := (HB.out.cell (World.block_lt_of_cell? w _ hx124_0)).trans hx124_0
                      replace p124 := eq_true p124
                      replace q124 := eq_true q124
                      go_wp2_with (first | (go_at_call 33; (with_reducible refine (item_Field.calls (rdOf ByteArray.empty l0 x5_2) t125 _ A9.out).mono ?_); rintro e w16 ⟨rfl, hb⟩; have n0_ := Aside0.mk (below_step (by repeat (first | (with_reducible first | exact HB.out | apply below_alloc | apply pw_below_drewN | apply below_drew1) | exact HB.out)) hb); clear HB; have HB := n0_; clear n0_; (try clear hb); (try clear hb2); (try clear hk); (try clear hi)))
                      go_roundg k2
                      case measure => have := HK1.out; have := HK2.out; omega
                      case rel => exact ⟨(x5_2), (by first | rfl | (simp; done) | (simp [*]; done) | exact isEmpty_bne _), H', ⟨by have := HK1.out; have := HK2.out; omega⟩, ⟨by repeat (first | (with_reducible first | exact HB.out | apply below_alloc | apply pw_below_drewN | apply below_drew1) | exact HB.out)⟩⟩
                    · replace c15 := Bool.eq_false_iff.mpr c15
                      subst c15
                      have H1 : (some false) = some r := by rw [if_neg (show ¬ (false = true) by decide)] at H; exact H
                      clear H
                      have H := H1
                      clear H1
                      obtain rfl := Option.some.inj H
                      have p124 : 0 ≤ (x5_2 : Int) := of_decide_eq_true (by first | (with_reducible assumption) | assumption)
                      have q124 : x5_2 < (l0.length : Int) := of_decide_eq_true (by first | (with_reducible assumption) | assumption)
                      obtain ⟨ad124, e124, hx124_0⟩ := Kd.at_string HR0.out x5_2 p124 q124
                      obtain rfl : ad122 = ad124 := (by injection e124)
                      replace hx124_0 := (HB.out.cell (World.block_lt_of_cell? w _ hx124_0)).trans hx124_0
                      replace p124 := eq_true p124
                      replace q124 := eq_true q124
                      go_wp2_with (first | (go_at_call 33; (with_reducible refine (item_Field.calls (rdOf ByteArray.empty l0 x5_2) t125 _ A9.out).mono ?_); rintro e w17 ⟨rfl, hb⟩; have n0_ := Aside0.mk (below_step (by repeat (first | (with_reducible first | exact HB.out | apply below_alloc | apply pw_below_drewN | apply below_drew1) | exact HB.out)) hb); clear HB; have HB := n0_; clear n0_; (try clear hb); (try clear hb2); (try clear hk); (try clear hi)))
                      go_ret
                      exact ⟨by first | rfl | (simp [errW_none, errW_some] <;> rfl) | (simp [*, errW_none, errW_some] <;> rfl), by repeat (first | (with_reducible first | exact HB.out | apply below_alloc | apply pw_below_drewN | apply below_drew1) | exact HB.out)⟩
                · rw [if_neg c8] at H
                  exact absurd H (by simp)
              · rw [if_neg c7] at H
                have c7b0 : decide (x5_2 < (l0.length : Int)) = false := decide_eq_false c7
                clear c7
                by_cases c18 : x7_2 = true
                · subst c18
                  have H1 : (expr_choice.l0 k2 l0 l1 x5_2) = some r := by rw [if_pos rfl] at H; exact H
                  clear H
                  have H := H1
                  clear H1
                  have H' := Aside0.mk H
                  clear H
                  go_wp2
                  go_roundg k2
                  case measure => have := HK1.out; have := HK2.out; omega
                  case rel => exact ⟨(x5_2), (by first | rfl | (simp; done) | (simp [*]; done) | exact isEmpty_bne _), H', ⟨by have := HK1.out; have := HK2.out; omega⟩, ⟨by repeat (first | (with_reducible first | exact HB.out | apply below_alloc | apply pw_below_drewN | apply below_drew1) | exact HB.out)⟩⟩
                · replace c18 := Bool.eq_false_iff.mpr c18
                  subst c18
                  have H1 : (some false) = some r := by rw [if_neg (show ¬ (false = true) by decide)] at H; exact H
                  clear H
                  have H := H1
                  clear H1
                  obtain rfl := Option.some.inj H
                  go_wp2
                  go_ret
                  exact ⟨by first | rfl | (simp [errW_none, errW_some] <;> rfl) | (simp [*, errW_none, errW_some] <;> rfl), by repeat (first | (with_reducible first | exact HB.out | apply below_alloc | apply pw_below_drewN | apply below_drew1) | exact HB.out)⟩
        · rw [if_neg c4] at H
          exact absurd H (by simp)
      · rw [if_neg c3] at H
        have c3b0 : decide (x5_1 < (l0.length : Int)) = false := decide_eq_false c3
        clear c3
        obtain rfl := Option.some.inj H
        go_wp2
        go_ret
        exact ⟨by first | rfl | (simp [errW_none, errW_some] <;> rfl) | (simp [*, errW_none, errW_some] <;> rfl), by repeat (first | (with_reducible first | exact HB.out | apply below_alloc | apply pw_below_drewN | apply below_drew1) | exact HB.out)⟩

-- GIVEN rounds=1 making=1 needs=(*logbook/expr.Expr).Levels,logbook/expr.choice
/-! ### (*expr.Expr).Is: by hand: ContainsFunc with a closure that makes memory -/
def idxC (k : Nat) (items : List ByteArray) : List (List ByteArray) → Nat → Option Int
  | [], _ => some (-1)
  | c :: t, i => (expr_choice.f k c items).bind fun b => if b = true then some (i : Int) else idxC k items t (i + 1)
def isL (k : Nat) (items : List ByteArray) : List (List (List ByteArray)) → Option Bool
  | [] => some true
  | l :: t => (idxC k items l 0).bind fun i => if 0 ≤ i then isL k items t else some false
def expr_Expr_Is.f (k : Nat) (L : List (List (List ByteArray))) (items : List ByteArray) : Option Bool := (expr_Expr_Levels.f L).bind fun ls => isL k items ls
theorem idxC_mono (k : Nat) (items : List ByteArray) : ∀ (l : List (List ByteArray)) (i : Nat), LeO (idxC k items l i) (idxC (k + 1) items l i)
  | [], _ => LeO.refl _
  | c :: t, i => LeO.bind (expr_choice.mono c items k) (fun b => LeO.ite (LeO.refl _) (idxC_mono k items t (i + 1)))
theorem isL_mono (k : Nat) (items : List ByteArray) : ∀ (l : List (List (List ByteArray))), LeO (isL k items l) (isL (k + 1) items l)
  | [] => LeO.refl _
  | l :: t => LeO.bind (idxC_mono k items l 0) (fun i => LeO.ite (isL_mono k items t) (LeO.refl _))
theorem expr_Expr_Is.mono : ∀ L items k, LeO (expr_Expr_Is.f k L items) (expr_Expr_Is.f (k + 1) L items) := fun L items k => LeO.bind (LeO.refl _) (fun ls => isL_mono k items ls)
/-- the closure, whose items lie in a box -/
abbrev isF (b : Nat) : Value := .func (.func 26) #[] #[.pointer (some ⟨b, 0, none⟩)]
set_option maxHeartbeats 1600000 in
theorem is1_calls (k b : Nat) (items c : List ByteArray) (A0 Ac : Option Addr) (c0 cc : Nat) (r : Bool) (w : World) (hb : w.heap[b]? = some (.cells #[.slice A0 items.length c0] 31 (0, 0))) (hi : Kd.C Kd.string w A0 items.length items) (hi2 : items.length ≤ c0) (hc : Kd.C Kd.string w Ac c.length c) (hc2 : c.length ≤ cc) (h : expr_choice.f k c items = some r) :
    Calls Try.prog 26 #[.slice Ac c.length cc, .pointer (some ⟨b, 0, none⟩)] w fun e w' => e = .returned (.bool r) ∧ Below w.heap.size w w' := by
  have HC := Lib.hid (expr_choice.calls k Ac cc c A0 c0 items r w hc hc2 hi hi2 h)
  have k0 := blk_cell hb 0
  simp at k0
  clear hb hi hi2 hc hc2 h
  go_enter Try.func26, Try.ntmps26
  go_wp2_with (first
    | (go_at_call 27; (with_reducible refine HC.out.mono ?_); rintro e w2 ⟨rfl, hb⟩; have HB := Lib.hid hb; clear hb))
  go_ret
  exact ⟨rfl, HB.out⟩
set_option maxHeartbeats 3200000 in
theorem indexIs_calls (k b : Nat) (items : List ByteArray) (A0 : Option Addr) (c0 : Nat) (A : Option Addr) (cp : Nat) (l : List (List ByteArray)) (r : Int) (w : World) (hb : w.heap[b]? = some (.cells #[.slice A0 items.length c0] 31 (0, 0))) (hi : Kd.C Kd.string w A0 items.length items) (hi2 : items.length ≤ c0)
    (hr : Kd.C (Kd.slice 9 Kd.string) w A l.length l) (hl : l.length ≤ 1000000) (h : idxC k items l 0 = some r) :
    Calls Try.prog 36 #[.slice A l.length cp, isF b] w fun e w' => e = .returned (.int .i64 r) ∧ Below w.heap.size w w' := by
  have HR := Lib.hid hr
  have HI := Lib.hid hi
  have HB0 := Lib.hid hb
  have HI2 := Lib.hid hi2
  have HH := Lib.hid h
  clear hr hi hb hi2 h
  go_enter Try.func36, Try.ntmps36
  go_wp2
  go_loopw [8] (fun v wr => ∃ q : Nat, q ≤ l.length ∧ v = .int .i64 (q : Int) ∧ Hid (idxC k items (l.drop q) q = some r) ∧ Hid (Below w.heap.size w wr)) (fun v _ => l.length - (intOf v).toNat)
  case atStart => exact ⟨0, Nat.zero_le _, rfl, HH, Lib.hid (Below.refl _ _)⟩
  case round =>
    obtain ⟨q, hq, rfl, hz, hb⟩ := hrel
    by_cases hlt : q < l.length
    · obtain ⟨ad, c1, rfl, hc1, ⟨Ac, cc, rfl, hcc, hC⟩, z1⟩ := ReadsRow.get_ (Kd.C_below HR.out hb.out) [] (q : Int) (by omega) (by omega)
      have y1 := z1 0 _ rfl
      rw [Int.toNat_natCast] at y1 hcc hC
      have u1 : ad.add (q * (Kd.slice 9 Kd.string).sz + 0) = ad.add q := by
        show ad.add (q * 1 + 0) = ad.add q
        rw [Nat.mul_one, Nat.add_zero]
      rw [u1] at y1
      have hd : l.drop q = l.getD q [] :: l.drop (q + 1) := by
        rw [List.drop_eq_getElem_cons hlt, List.getD_eq_getElem?_getD, List.getElem?_eq_getElem hlt, Option.getD_some]
      have hz2 := hz.out
      rw [hd, idxC] at hz2
      have q0 : (0 : Int) ≤ (q : Int) := by omega
      have q1 : (q : Int) < (l.length : Int) := by omega
      rw [Int.toNat_natCast] at z1
      generalize l.getD q [] = c at hcc hC hz2 z1 y1
      cases hch : expr_choice.f k c items with
      | none => rw [hch] at hz2; cases hz2
      | some bb =>
      rw [hch] at hz2
      have HCC := Lib.hid hcc
      have HCR := Lib.hid hC
      have HCH := Lib.hid hch
      have HBX := Lib.hid (blk_below HB0.out hb.out)
      have hz3 : (if bb = true then some (q : Int) else idxC k items (l.drop (q + 1)) (q + 1)) = some r := hz2
      clear hd hz hz2 hc1 z1 u1 hcc hC hch
      cases bb
      · have HN := Lib.hid ((if_neg (by decide)).symm.trans hz3)
        clear hz3
        go_wp2_with (first
          | (go_at_call 26; (refine (is1_calls k b items c A0 Ac c0 cc false _ HBX.out (Kd.C_below HI.out hb.out) HI2.out HCR.out HCC.out HCH.out).mono ?_); rintro e w2 ⟨rfl, hb2⟩; have HB2 := Lib.hid hb2; clear hb2))
        go_roundw
        case rel => exact ⟨q + 1, by omega, by go_num, HN, Lib.hid (hb.out.trans (HB2.out.mono hb.out.size))⟩
        case measure => simp [intOf]; omega
      · have HN := Lib.hid (Option.some.inj ((if_pos rfl).symm.trans hz3))
        clear hz3
        go_wp2_with (first
          | (go_at_call 26; (refine (is1_calls k b items c A0 Ac c0 cc true _ HBX.out (Kd.C_below HI.out hb.out) HI2.out HCR.out HCC.out HCH.out).mono ?_); rintro e w2 ⟨rfl, hb2⟩; have HB2 := Lib.hid hb2; clear hb2))
        go_ret
        exact ⟨by rw [← HN.out]; first | done | rfl | simp, hb.out.trans (HB2.out.mono hb.out.size)⟩
    · have q1 : ¬ (q : Int) < (l.length : Int) := by omega
      have HN := Lib.hid (Option.some.inj ((show idxC k items (l.drop q) q = some (-1) by rw [List.drop_of_length_le (by omega)]; rfl).symm.trans hz.out))
      clear hz hlt
      go_wp2
      go_ret
      exact ⟨by rw [← HN.out]; first | done | rfl | simp, hb.out⟩
set_option maxHeartbeats 1600000 in
theorem containsIs_calls (k b : Nat) (items : List ByteArray) (A0 : Option Addr) (c0 : Nat) (A : Option Addr) (cp : Nat) (l : List (List ByteArray)) (r : Int) (w : World) (hb : w.heap[b]? = some (.cells #[.slice A0 items.length c0] 31 (0, 0))) (hi : Kd.C Kd.string w A0 items.length items) (hi2 : items.length ≤ c0)
    (hr : Kd.C (Kd.slice 9 Kd.string) w A l.length l) (hl : l.length ≤ 1000000) (h : idxC k items l 0 = some r) :
    Calls Try.prog 25 #[.slice A l.length cp, isF b] w fun e w' => e = .returned (.bool (decide (0 ≤ r))) ∧ Below w.heap.size w w' := by
  have HI := Lib.hid (indexIs_calls k b items A0 c0 A cp l r w hb hi hi2 hr hl h)
  clear hr hl hb hi hi2 h
  go_enter Try.func25, Try.ntmps25
  go_wp2_with (first
    | (go_at_call 36; (with_reducible refine HI.out.mono ?_); rintro e w' ⟨rfl, hb⟩; have HB := Lib.hid hb; clear hb))
  go_ret
  exact ⟨by first | rfl | simp, HB.out⟩
theorem R_max {α : Type} {d : Kd α} {e : Nat} {w : World} {base : Nat} {ok : Nat → Prop} {v : Value} {xs : List α} (h : Kd.R d e w base ok v xs) : xs.length ≤ maxLen := by
  obtain ⟨inner, ho⟩ := Kd.R_own h
  rcases ho.2 with ⟨_, h0⟩ | ⟨g, cap, cur, _, _, _, h1, h2, _⟩ <;> omega
theorem levF_small (L : List (List (List ByteArray))) (h : L.length ≤ 1000000 ∧ ∀ l ∈ L, l.length ≤ 1000000 ∧ ∀ c ∈ l, c.length ≤ 1000000) : (levF L).length ≤ 1000000 ∧ ∀ l ∈ levF L, l.length ≤ 1000000 := by
  refine ⟨Nat.le_trans (levF_len L) h.1, fun l hl => ?_⟩
  unfold levF at hl
  have h1 := (List.mem_filter.1 hl).1
  obtain ⟨l0, h2, rfl⟩ := List.mem_map.1 h1
  exact Nat.le_trans (chF_len l0) (h.2 l0 h2).1
set_option maxHeartbeats 3200000 in
theorem is_core (k : Nat) (P : Value) (ls : List (List (List ByteArray))) (A0 : Option Addr) (c0 : Nat) (items : List ByteArray) (r : Bool) (w : World) (hP : P.oneCell' = true) (hi : Kd.C Kd.string w A0 items.length items) (hi2 : items.length ≤ c0)
    (hls : ls.length ≤ 1000000 ∧ ∀ l ∈ ls, l.length ≤ 1000000) (hL : ∀ W, Below w.heap.size w W → Calls Try.prog 12 #[P] W fun e w' => ∃ A c, e = .returned (.slice A ls.length c) ∧ Kd.C dL3 w' A ls.length ls ∧ Below W.heap.size W w') (h : isL k items ls = some r) :
    Calls Try.prog 10 #[P, .slice A0 items.length c0] w fun e w' => e = .returned (.bool r) ∧ Below w.heap.size w w' := by
  have HI := Lib.hid hi
  have HI2 := Lib.hid hi2
  have HL := Lib.hid hL
  have HH := Lib.hid h
  have HLS := Lib.hid hls.2
  have hl1 := hls.1
  clear hi hi2 hL h hls
  go_enter Try.func10, Try.ntmps10
  go_wp2_with (first
    | (go_at_call 12; (refine (HL.out _ (below_alloc (Below.refl _ _) _)).mono ?_); rintro e w2 ⟨A, c, rfl, hC, hb⟩; have HC := Lib.hid hC; have HB := Lib.hid hb; clear hC hb))
  rename World => W2
  have HBX := Lib.hid (blk_below (blk_new w (.cells #[.slice A0 items.length c0] 31)) HB.out)
  have HW := Lib.hid ((below_alloc (Below.refl _ w) (.cells #[.slice A0 items.length c0] 31)).trans (HB.out.mono (by rw [World.size_alloc]; exact Nat.le_succ _)))
  go_loopw [10] (fun v wr => ∃ q : Nat, q ≤ ls.length ∧ v = .int .i64 (q : Int) ∧ Hid (isL k items (ls.drop q) = some r) ∧ Hid (Below W2.heap.size W2 wr)) (fun v _ => ls.length - (intOf v).toNat)
  case atStart => exact ⟨0, Nat.zero_le _, rfl, HH, Lib.hid (Below.refl _ _)⟩
  case round =>
    obtain ⟨q, hq, rfl, hz, hb⟩ := hrel
    have HW2 := Lib.hid (HW.out.trans (hb.out.mono HW.out.size))
    by_cases hlt : q < ls.length
    · obtain ⟨ad, c1, rfl, hc1, ⟨Al, cl, rfl, hcc, hC⟩, z1⟩ := ReadsRow.get_ (Kd.C_below HC.out hb.out) [] (q : Int) (by omega) (by omega)
      have y1 := z1 0 _ rfl
      rw [Int.toNat_natCast] at y1 hcc hC
      have u1 : ad.add (q * dL3.sz + 0) = ad.add q := by
        show ad.add (q * 1 + 0) = ad.add q
        rw [Nat.mul_one, Nat.add_zero]
      rw [u1] at y1
      have hd : ls.drop q = ls.getD q [] :: ls.drop (q + 1) := by
        rw [List.drop_eq_getElem_cons hlt, List.getD_eq_getElem?_getD, List.getElem?_eq_getElem hlt, Option.getD_some]
      have hz2 := hz.out
      rw [hd, isL] at hz2
      have hlz := HLS.out _ (getD_mem ls q [] hlt)
      have q0 : (0 : Int) ≤ (q : Int) := by omega
      have q1 : (q : Int) < (ls.length : Int) := by omega
      rw [Int.toNat_natCast] at z1
      generalize ls.getD q [] = l at hcc hC hz2 z1 y1 hlz
      cases hch : idxC k items l 0 with
      | none => rw [hch] at hz2; cases hz2
      | some ix =>
      rw [hch] at hz2
      have HCC := Lib.hid hcc
      have HCR := Lib.hid hC
      have HCH := Lib.hid hch
      have HBY := Lib.hid (blk_below HBX.out hb.out)
      have hz3 : (if 0 ≤ ix then isL k items (ls.drop (q + 1)) else some false) = some r := hz2
      clear hd hz hz2 hc1 z1 u1 hcc hC hch
      by_cases hix : 0 ≤ ix
      · have HN := Lib.hid ((if_pos hix).symm.trans hz3)
        clear hz3
        have hixd : decide (0 ≤ ix) = true := decide_eq_true hix
        go_wp2_with (first
          | (go_at_call 25; (refine (containsIs_calls k w.heap.size items A0 c0 Al cl l ix _ HBY.out (Kd.C_below HI.out HW2.out) HI2.out HCR.out hlz HCH.out).mono ?_); rintro e w2 ⟨rfl, hb2⟩; have HB2 := Lib.hid hb2; clear hb2))
        go_roundw
        case rel => exact ⟨q + 1, by omega, by go_num, HN, Lib.hid (hb.out.trans (HB2.out.mono hb.out.size))⟩
        case measure => simp [intOf]; omega
      · have HN := Lib.hid (Option.some.inj ((if_neg hix).symm.trans hz3))
        clear hz3
        have hixd : decide (0 ≤ ix) = false := decide_eq_false hix
        go_wp2_with (first
          | (go_at_call 25; (refine (containsIs_calls k w.heap.size items A0 c0 Al cl l ix _ HBY.out (Kd.C_below HI.out HW2.out) HI2.out HCR.out hlz HCH.out).mono ?_); rintro e w2 ⟨rfl, hb2⟩; have HB2 := Lib.hid hb2; clear hb2))
        go_ret
        exact ⟨by rw [← HN.out]; first | done | rfl | simp, HW2.out.trans (HB2.out.mono HW2.out.size)⟩
    · have q1 : ¬ (q : Int) < (ls.length : Int) := by omega
      have HN := Lib.hid (Option.some.inj ((show isL k items (ls.drop q) = some true by rw [List.drop_of_length_le (by omega)]; rfl).symm.trans hz.out))
      clear hz hlt
      go_wp2
      go_ret
      exact ⟨by rw [← HN.out]; first | done | rfl | simp, HW2.out⟩
theorem expr_Expr_Is.calls (k : Nat) (L : List (List (List ByteArray))) (n : Int) (B g : Nat) (ok : Nat → Prop) (A0 : Option Addr) (c0 : Nat) (items : List ByteArray) (r : Bool) (w : World) (hx : ExS w B g ok L n) (hi : Kd.C Kd.string w A0 items.length items) (hi2 : items.length ≤ c0) (h : expr_Expr_Is.f k L items = some r) :
    Calls Try.prog 10 #[.pointer (some ⟨g, 0, none⟩), .slice A0 items.length c0] w fun e w' => e = .returned (.bool r) ∧ Below w.heap.size w w' := by
  unfold expr_Expr_Is.f at h
  cases hl : expr_Expr_Levels.f L with
  | none => rw [hl] at h; cases h
  | some ls =>
  rw [hl] at h
  have hs : ls.length ≤ 1000000 ∧ ∀ l ∈ ls, l.length ≤ 1000000 := by
    unfold expr_Expr_Levels.f at hl
    by_cases hz : L.length ≤ 1000000 ∧ ∀ l ∈ L, l.length ≤ 1000000 ∧ ∀ c ∈ l, c.length ≤ 1000000
    · rw [if_pos hz] at hl
      cases hl
      exact levF_small L hz
    · rw [if_neg hz] at hl
      cases hl
  refine is_core k _ ls A0 c0 items r w rfl hi hi2 hs (fun W hW => (expr_Expr_Levels.calls L n B g ok ls W (hx.below hW) hl).mono ?_) h
  rintro e w' ⟨v0, rfl, hR, hb⟩
  obtain ⟨A, c, rfl, _, hC⟩ := Kd.R_reads hR
  exact ⟨A, c, rfl, hC, hb⟩
theorem expr_Expr_Is.nil_ (k : Nat) (A0 : Option Addr) (c0 : Nat) (items : List ByteArray) (w : World) (hi : Kd.C Kd.string w A0 items.length items) (hi2 : items.length ≤ c0) :
    Calls Try.prog 10 #[.pointer none, .slice A0 items.length c0] w fun e w' => e = .returned (.bool true) ∧ Below w.heap.size w w' := by
  refine is_core 0 _ [] A0 c0 items true w rfl hi hi2 ⟨by simp, fun l hl => by cases hl⟩ (fun W hW => (expr_Expr_Levels.nil_ W).mono ?_) rfl
  rintro e w' ⟨rfl, rfl⟩
  exact ⟨none, 0, rfl, ⟨rfl, by simp, fun h => absurd h (by simp)⟩, Below.refl _ _⟩

-- GIVEN rounds=0 making=1 shelf own=0
/-! ### slices.Compact of texts: out of the shelf's contract -/
def compB (l : List ByteArray) : List ByteArray := (Lib.compact (l.map (·.data.toList))).map fun b => ⟨b.toArray⟩
def slices_Compact_string_string.f (l0 : List ByteArray) : Option (List ByteArray) := some (compB l0)
theorem comp_kept {w w' : World} {g : Nat} {P : Nat → Prop} (h : w.grownBy w' (some g)) (hg : P g) : Kept w w' P := by
  obtain ⟨_, _, _, h4, h5⟩ := h
  exact ⟨h4, fun i hi hn => h5 i hi (fun e => hn (by injection e with e; rw [e]; exact hg))⟩
theorem comp_grown {α : Type} [Inhabited α] (enc : α → Value) (w : World) (g q : Nat) (d : Array α) : w.grownBy (Go.Sort.putRow enc (Go.Sort.ahead w q) g 0 d) (some g) := by
  refine ⟨rfl, rfl, rfl, by simp [Go.Sort.ahead], fun k hk hne => ?_⟩
  have : g ≠ k := fun e => hne (by rw [e])
  simp [Go.Sort.putRow, Go.Sort.mapBlock, Go.Sort.ahead, Array.getElem?_modify, this]
theorem slices_Compact_string_string.calls (P0_ : Nat → Prop) (u9000_ : Value) (l0 : List ByteArray) (r : List ByteArray) (w0 w : World) (hB : Below w0.heap.size w0 w) (ho0 : Kd.R Kd.string 9 w w0.heap.size P0_ u9000_ l0) (h : slices_Compact_string_string.f l0 = some r) :
    Calls Try.prog 44 #[u9000_] w fun e w' => ∃ v0_ : Value, e = .returned (v0_) ∧ Kd.R Kd.string 9 w' w0.heap.size (fun k_ => (P0_ k_ ∨ w.heap.size ≤ k_)) v0_ r ∧ Below w0.heap.size w0 w' ∧ Kept w w' (fun k_ => P0_ k_) := by
  obtain rfl := Option.some.inj h
  have ho := Kd.own_of_R ho0
  rcases ho.2 with ⟨rfl, hn⟩ | ⟨g, cap, cur, rfl, hbase, hb, h1, h2, h3, h4⟩
  · obtain rfl := List.eq_nil_of_length_eq_zero hn
    refine (Try.slices_Compact_string_empty none 0 w).mono ?_
    rintro e w' ⟨rfl, rfl⟩
    refine ⟨_, rfl, ?_, hB, Kept.refl _ _⟩
    have e : compB [] = [] := by
      unfold compB
      rw [List.map_nil, show (Lib.compact ([] : List (List UInt8))) = [] from List.eq_nil_of_length_eq_zero (Nat.le_zero.1 (Lib.compact_length_le []))]
      rfl
    rw [e]
    exact Kd.R_nil _ _ _ _ _
  · have hH : Go.Sort.Holds encStr w g 0 (l0.map (fun b : ByteArray => b.data.toList)).toArray := holds_of_block hb (by rw [List.length_map, Lib.map_encStr]; simpa [encs] using h4)
    have hm : cap ≤ 9223372036854775807 := Nat.le_trans h2 (by decide)
    have key := Try.slices_Compact_string g 0 cap (l0.map (fun b : ByteArray => b.data.toList)) w hH (by rw [List.length_map]; omega) (by rw [List.length_map]; exact h1)
    rw [List.length_map] at key
    refine key.mono ?_
    rintro e w' ⟨rfl, q, rfl⟩
    have hle := Lib.compact_length_le (l0.map (fun b : ByteArray => b.data.toList))
    rw [List.length_map] at hle
    have ho2 : w.ownsRow w0.heap.size 9 1 (.slice (some ⟨g, 0, none⟩) l0.length cap) l0.length ((l0.map (fun b : ByteArray => b.data.toList)).map encStr) := by
      rw [Lib.map_encStr]
      exact ho
    have hown := Lib.ownsRow_putRow (q := q) (k := (Lib.compact (l0.map (fun b : ByteArray => b.data.toList))).length) (ys := Lib.compact (l0.map (fun b : ByteArray => b.data.toList)) ++ List.replicate (l0.length - (Lib.compact (l0.map (fun b : ByteArray => b.data.toList))).length) []) ho2 (by rw [List.length_append, List.length_replicate]; omega) hle
    rw [List.take_left' rfl] at hown
    have hg := comp_grown encStr w g q (Lib.compact (l0.map (fun b : ByteArray => b.data.toList)) ++ List.replicate (l0.length - (Lib.compact (l0.map (fun b : ByteArray => b.data.toList))).length) []).toArray
    have hl : (compB l0).length = (Lib.compact (l0.map (fun b : ByteArray => b.data.toList))).length := by simp [compB]
    refine ⟨_, rfl, ?_, pw_below_grown hB (some g) hB.size hg (fun k e => by injection e with e; omega), comp_kept hg (ho0.1 g rfl)⟩
    rw [← hl]
    refine Kd.R_of_own ?_ (fun k hk => .inl (ho0.1 k hk))
    have e2 : encs Value.string (compB l0) = (Lib.compact (l0.map (fun b : ByteArray => b.data.toList))).map encStr := by
      unfold compB encs
      rw [List.map_map]
      rfl
    rw [e2, hl]
    exact hown

end Go.Proofs.Ytajlgbonapfckaa.PExprAsks
