-- LAID BY gprint.py: a scratch copy of the print, with functions that this session proved by hand among the printed ones
import Derived.Test.YtbbegchdlkmebaaDoorPExportReadsx0
import Derived.Test.YtbbegchdlkmebaaDoorPExportReadsx9
namespace Go.Proofs.YtbbegchdlkmebaaDoor.PExportReads
open Go.RowKit Go.Proofs.YtbbegchdlkmebaaDoorW.PrintWords Go.Proofs.YtbbegchdlkmebaaDoorW.PrintLast Go.Proofs.YtbbegchdlkmebaaDoor.Conv Go.Proofs.YtbbegchdlkmebaaDoor.Bld Go.Proofs.YtbbegchdlkmebaaDoorW.PrintMore
attribute [local go_sem] max2_int min2_int max_two min_two max_three min_three max_four min_four gtr_less   -- for this text's walks alone
set_option linter.unusedVariables false
set_option linter.unusedSimpArgs false

/-! ### logbookref29_digits: function 54 -/
mutual
def logbookref29_digits.l0 : Nat → ByteArray → Int → Int → Int → Option (Int × Int)
 | 0, _, _, _, _ => none
 | k + 1, x0, x1, x6, x7 => if x7 < 16 then (logbookref29_digits.j1 k x0 x1 x6 x7 (decide (x1 < (x0.size : Int)))) else (logbookref29_digits.j1 k x0 x1 x6 x7 false)
def logbookref29_digits.j1 : Nat → ByteArray → Int → Int → Int → Bool → Option (Int × Int)
 | 0, _, _, _, _, _ => none
 | k + 1, x0, x1, x6, x7, x16 => if x16 = true then (if 0 ≤ x1 then (if x1 < (x0.size : Int) then (if (bt x0 x1) ≥ 48 then (logbookref29_digits.j2 k x0 x1 x6 x7 (bt x0 x1) (decide ((bt x0 x1) ≤ 57))) else (logbookref29_digits.j2 k x0 x1 x6 x7 (bt x0 x1) false)) else (none)) else (none)) else (some (x6, x1))
def logbookref29_digits.j2 : Nat → ByteArray → Int → Int → Int → Int → Bool → Option (Int × Int)
 | 0, _, _, _, _, _, _ => none
 | k + 1, x0, x1, x6, x7, x8, x27 => if x27 = true then (logbookref29_digits.l0 k x0 (wrap64 (x1 + 1)) (IntKind.u64.wrap ((IntKind.u64.wrap (x6 * 16)) + ((x8 - 48) % 256))) (wrap64 (x7 + 1))) else (if x8 ≥ 97 then (if x8 ≤ 102 then (logbookref29_digits.l0 k x0 (wrap64 (x1 + 1)) (IntKind.u64.wrap ((IntKind.u64.wrap ((IntKind.u64.wrap (x6 * 16)) + ((x8 - 97) % 256))) + 10)) (wrap64 (x7 + 1))) else (some (x6, x1))) else (some (x6, x1)))
end
def logbookref29_digits.f (k : Nat) (a0 : ByteArray) (a1 : Int) : Option (Int × Int) := logbookref29_digits.l0 k a0 a1 0 0
theorem logbookref29_digits.mono_l : ∀ k, (∀ y0 y1 y2 y3, LeO (logbookref29_digits.l0 k y0 y1 y2 y3) (logbookref29_digits.l0 (k + 1) y0 y1 y2 y3)) ∧ (∀ y0 y1 y2 y3 y4, LeO (logbookref29_digits.j1 k y0 y1 y2 y3 y4) (logbookref29_digits.j1 (k + 1) y0 y1 y2 y3 y4)) ∧ (∀ y0 y1 y2 y3 y4 y5, LeO (logbookref29_digits.j2 k y0 y1 y2 y3 y4 y5) (logbookref29_digits.j2 (k + 1) y0 y1 y2 y3 y4 y5))
 | 0 => ⟨fun _ _ _ _ r h => by simp [logbookref29_digits.l0] at h, fun _ _ _ _ _ r h => by simp [logbookref29_digits.j1] at h, fun _ _ _ _ _ _ r h => by simp [logbookref29_digits.j2] at h⟩
 | k + 1 => by
  obtain ⟨ih0, ih1, ih2⟩ := logbookref29_digits.mono_l k
  refine ⟨?_, ?_, ?_⟩
  ·intro y0 y1 y2 y3
   unfold logbookref29_digits.l0
   repeat' first
   | (with_reducible exact ih0 _ _ _ _)
   | (with_reducible exact ih1 _ _ _ _ _)
   | (with_reducible exact ih2 _ _ _ _ _ _)
   | (with_reducible exact LeO.refl _)
   | (with_reducible exact LeO.none _)
   | (with_reducible refine LeO.ite ?_ ?_)
   | (with_reducible refine LeO.bind ?_ (fun _ => ?_))
   | exact ih0 _ _ _ _
   | exact ih1 _ _ _ _ _
   | exact ih2 _ _ _ _ _ _
   | exact LeO.none _
   | refine LeO.ite ?_ ?_
   | refine LeO.bind ?_ (fun _ => ?_)
  ·intro y0 y1 y2 y3 y4
   unfold logbookref29_digits.j1
   repeat' first
   | (with_reducible exact ih0 _ _ _ _)
   | (with_reducible exact ih1 _ _ _ _ _)
   | (with_reducible exact ih2 _ _ _ _ _ _)
   | (with_reducible exact LeO.refl _)
   | (with_reducible exact LeO.none _)
   | (with_reducible refine LeO.ite ?_ ?_)
   | (with_reducible refine LeO.bind ?_ (fun _ => ?_))
   | exact ih0 _ _ _ _
   | exact ih1 _ _ _ _ _
   | exact ih2 _ _ _ _ _ _
   | exact LeO.none _
   | refine LeO.ite ?_ ?_
   | refine LeO.bind ?_ (fun _ => ?_)
  ·intro y0 y1 y2 y3 y4 y5
   unfold logbookref29_digits.j2
   repeat' first
   | (with_reducible exact ih0 _ _ _ _)
   | (with_reducible exact ih1 _ _ _ _ _)
   | (with_reducible exact ih2 _ _ _ _ _ _)
   | (with_reducible exact LeO.refl _)
   | (with_reducible exact LeO.none _)
   | (with_reducible refine LeO.ite ?_ ?_)
   | (with_reducible refine LeO.bind ?_ (fun _ => ?_))
   | exact ih0 _ _ _ _
   | exact ih1 _ _ _ _ _
   | exact ih2 _ _ _ _ _ _
   | exact LeO.none _
   | refine LeO.ite ?_ ?_
   | refine LeO.bind ?_ (fun _ => ?_)
theorem logbookref29_digits.mono : ∀ a0 a1 k, LeO (logbookref29_digits.f k a0 a1) (logbookref29_digits.f (k + 1) a0 a1) := by
 intro a0 a1 k
 obtain ⟨ih0, ih1, ih2⟩ := logbookref29_digits.mono_l k
 unfold logbookref29_digits.f
 repeat' first
   | (with_reducible exact ih0 _ _ _ _)
   | (with_reducible exact ih1 _ _ _ _ _)
   | (with_reducible exact ih2 _ _ _ _ _ _)
   | (with_reducible exact LeO.refl _)
   | (with_reducible exact LeO.none _)
   | (with_reducible refine LeO.ite ?_ ?_)
   | (with_reducible refine LeO.bind ?_ (fun _ => ?_))
   | exact ih0 _ _ _ _
   | exact ih1 _ _ _ _ _
   | exact ih2 _ _ _ _ _ _
   | exact LeO.none _
   | refine LeO.ite ?_ ?_
   | refine LeO.bind ?_ (fun _ => ?_)
set_option maxHeartbeats 8000000 in
set_option maxRecDepth 100000 in
theorem logbookref29_digits.calls (k : Nat) (a0 : ByteArray) (a1 : Int) (r1 : Int) (r2 : Int) (w : World) (h : logbookref29_digits.f k a0 a1 = some (r1, r2)) :
  Calls Tryd.prog 54 #[.string a0, .int .i64 a1] w fun e w' => e = .returned (.tuple #[.int .u64 r1, .int .i64 r2]) ∧ Drawn0 w w' := by
 have H : (logbookref29_digits.l0 k a0 a1 0 0) = some (r1, r2) := h
 clear h
 have H' := Aside0.mk H
 clear H
 go_enter Tryd.func54, Tryd.ntmps54
 go_wp2
 go_loopg [1, 6, 7] k (fun kq v1 v6 v7 w' => ∃ (x1_1 : Int) (x6_1 : Int) (x7_1 : Int), v1 = .int .i64 x1_1 ∧ v6 = .int .u64 x6_1 ∧ v7 = .int .i64 x7_1 ∧ Aside0 (logbookref29_digits.l0 kq a0 x1_1 x6_1 x7_1 = some (r1, r2)) ∧ Aside0 (kq ≤ k) ∧ Drawn0 w w')
 case atStart => exact ⟨(a1), (0), (0), (by first | rfl | (simp; done) | (simp [*]; done) | exact isEmpty_bne _), (by first | rfl | (simp; done) | (simp [*]; done) | exact isEmpty_bne _), (by first | rfl | (simp; done) | (simp [*]; done) | exact isEmpty_bne _), H', ⟨Nat.le_refl _⟩, by repeat (first | exact Drawn0.refl _ | apply Drawn0.step)⟩
 case round =>
  clear H'
  try clear p2
  obtain ⟨x1_1, x6_1, x7_1, rfl, rfl, rfl, HA, HK1, ⟨m1, rfl⟩⟩ := hrel
  cases gk with
  | zero => exact absurd HA.out (by simp [logbookref29_digits.l0])
  | succ k1 =>
   have H := HA.out
   clear HA
   simp only [logbookref29_digits.l0] at H
   have HC3 := Aside0.mk H
   clear H
   go_upto_region 3 with (fail)
   go_cut [16] (fun v16 wc => ∃ (kq : Nat) (x16_2 : Bool), v16 = .bool x16_2 ∧ Aside0 (logbookref29_digits.j1 kq a0 x1_1 x6_1 x7_1 x16_2 = some (r1, r2)) ∧ Aside0 (kq ≤ k1) ∧ Drawn0 w wc)
   case first =>
    have H := HC3.out
    clear HC3
    by_cases c4 : x7_1 < 16
    ·rw [if_pos c4] at H
     have c4b0 : decide (x7_1 < 16) = true := decide_eq_true c4
     clear c4
     (first | rw [c4b0] | (simp only [i64_w, i32_w]; rw [c4b0]) | skip)
     have H' := Aside0.mk H
     clear H
     go_wp2
     go_meet
     case rel => exact ⟨_, (decide (x1_1 < (a0.size : Int))), (by first | rfl | (simp; done) | (simp [*]; done) | exact isEmpty_bne _), H', ⟨by have := HK1.out; first | omega | exact Nat.le_refl _⟩, by repeat (first | exact Drawn0.refl _ | apply Drawn0.step)⟩
    ·rw [if_neg c4] at H
     have c4b0 : decide (x7_1 < 16) = false := decide_eq_false c4
     clear c4
     (first | rw [c4b0] | (simp only [i64_w, i32_w]; rw [c4b0]) | skip)
     have H' := Aside0.mk H
     clear H
     go_wp2
     go_meet
     case rel => exact ⟨_, (false), (by first | rfl | (simp; done) | (simp [*]; done) | exact isEmpty_bne _), H', ⟨by have := HK1.out; first | omega | exact Nat.le_refl _⟩, by repeat (first | exact Drawn0.refl _ | apply Drawn0.step)⟩
   case rest =>
    clear HC3
    try clear p2
    try clear c4
    try clear c4b0
    try clear p2
    obtain ⟨kq, x16_2, rfl, HA, HJ2, ⟨mc2, rfl⟩⟩ := hcut
    cases kq with
    | zero => exact absurd HA.out (by simp [logbookref29_digits.j1])
    | succ kj2 =>
     have H := HA.out
     clear HA
     simp only [logbookref29_digits.j1] at H
     by_cases c5 : x16_2 = true
     ·subst c5
      have H1 : (if 0 ≤ x1_1 then (if x1_1 < (a0.size : Int) then (if (bt a0 x1_1) ≥ 48 then (logbookref29_digits.j2 kj2 a0 x1_1 x6_1 x7_1 (bt a0 x1_1) (decide ((bt a0 x1_1) ≤ 57))) else (logbookref29_digits.j2 kj2 a0 x1_1 x6_1 x7_1 (bt a0 x1_1) false)) else (none)) else (none)) = some (r1, r2) := by rw [if_pos rfl] at H; exact H
      clear H
      have H := H1
      clear H1
      by_cases c6 : 0 ≤ x1_1
      ·rw [if_pos c6] at H
       have c6b0 : decide (0 ≤ x1_1) = true := decide_eq_true c6
       clear c6
       by_cases c7 : x1_1 < (a0.size : Int)
       ·rw [if_pos c7] at H
        have c7b0 : decide (x1_1 < (a0.size : Int)) = true := decide_eq_true c7
        clear c7
        have HC9 := Aside0.mk H
        clear H
        have p8 : 0 ≤ (x1_1 : Int) := of_decide_eq_true (by first | (with_reducible assumption) | assumption)
        have q8 : x1_1 < (a0.size : Int) := of_decide_eq_true (by first | (with_reducible assumption) | assumption)
        have hx8 := bt_at a0 x1_1
        replace p8 := eq_true p8
        replace q8 := eq_true q8
        go_upto_region 6 with (fail)
        go_cut [27] (fun v27 wc => ∃ (kq : Nat) (x27_8 : Bool), v27 = .bool x27_8 ∧ Aside0 (logbookref29_digits.j2 kq a0 x1_1 x6_1 x7_1 (bt a0 x1_1) x27_8 = some (r1, r2)) ∧ Aside0 (kq ≤ kj2) ∧ Drawn0 w wc)
        case first =>
         have H := HC9.out
         clear HC9
         by_cases c10 : (bt a0 x1_1) ≥ 48
         ·rw [if_pos c10] at H
          have c10b0 : decide (48 ≤ (bt a0 x1_1)) = true := decide_eq_true c10
          clear c10
          (first | rw [c10b0] | (simp only [i64_w, i32_w]; rw [c10b0]) | skip)
          have H' := Aside0.mk H
          clear H
          go_wp2
          go_meet
          case rel => exact ⟨_, (decide ((bt a0 x1_1) ≤ 57)), (by first | rfl | (simp; done) | (simp [*]; done) | exact isEmpty_bne _), H', ⟨by have := HK1.out; have := HJ2.out; first | omega | exact Nat.le_refl _⟩, by repeat (first | exact Drawn0.refl _ | apply Drawn0.step)⟩
         ·rw [if_neg c10] at H
          have c10b0 : decide (48 ≤ (bt a0 x1_1)) = false := decide_eq_false c10
          clear c10
          (first | rw [c10b0] | (simp only [i64_w, i32_w]; rw [c10b0]) | skip)
          have H' := Aside0.mk H
          clear H
          go_wp2
          go_meet
          case rel => exact ⟨_, (false), (by first | rfl | (simp; done) | (simp [*]; done) | exact isEmpty_bne _), H', ⟨by have := HK1.out; have := HJ2.out; first | omega | exact Nat.le_refl _⟩, by repeat (first | exact Drawn0.refl _ | apply Drawn0.step)⟩
        case rest =>
         clear HC9
         try clear c1
         try clear c2
         try clear p2
         try clear c4
         try clear c4b0
         try clear c5
         try clear c6
         try clear c6b0
         try clear c7
         try clear c7b0
         try clear p8
         try clear q8
         try clear hx8
         try clear c10
         try clear c10b0
         try clear p2
         try clear p8
         try clear q8
         obtain ⟨kq, x27_8, rfl, HA, HJ8, ⟨mc8, rfl⟩⟩ := hcut
         cases kq with
         | zero => exact absurd HA.out (by simp [logbookref29_digits.j2])
         | succ kj8 =>
          have H := HA.out
          clear HA
          simp only [logbookref29_digits.j2] at H
          by_cases c11 : x27_8 = true
          ·subst c11
           have H1 : (logbookref29_digits.l0 kj8 a0 (wrap64 (x1_1 + 1)) (IntKind.u64.wrap ((IntKind.u64.wrap (x6_1 * 16)) + (((bt a0 x1_1) - 48) % 256))) (wrap64 (x7_1 + 1))) = some (r1, r2) := by rw [if_pos rfl] at H; exact H
           clear H
           have H := H1
           clear H1
           have H' := Aside0.mk H
           clear H
           go_wp2
           go_roundg kj8
           case measure => have := HK1.out; have := HJ2.out; have := HJ8.out; omega
           case rel => exact ⟨(wrap64 (x1_1 + 1)), (IntKind.u64.wrap ((IntKind.u64.wrap (x6_1 * 16)) + (((bt a0 x1_1) - 48) % 256))), (wrap64 (x7_1 + 1)), (by first | rfl | (simp; done) | (simp [*]; done) | exact isEmpty_bne _), (by first | rfl | (simp; done) | (simp [*]; done) | exact isEmpty_bne _), (by first | rfl | (simp; done) | (simp [*]; done) | exact isEmpty_bne _), H', ⟨by have := HK1.out; have := HJ2.out; have := HJ8.out; omega⟩, by repeat (first | exact Drawn0.refl _ | apply Drawn0.step)⟩
          ·replace c11 := Bool.eq_false_iff.mpr c11
           subst c11
           have H1 : (if (bt a0 x1_1) ≥ 97 then (if (bt a0 x1_1) ≤ 102 then (logbookref29_digits.l0 kj8 a0 (wrap64 (x1_1 + 1)) (IntKind.u64.wrap ((IntKind.u64.wrap ((IntKind.u64.wrap (x6_1 * 16)) + (((bt a0 x1_1) - 97) % 256))) + 10)) (wrap64 (x7_1 + 1))) else (some (x6_1, x1_1))) else (some (x6_1, x1_1))) = some (r1, r2) := by rw [if_neg (show ¬ (false = true) by decide)] at H; exact H
           clear H
           have H := H1
           clear H1
           by_cases c12 : (bt a0 x1_1) ≥ 97
           ·rw [if_pos c12] at H
            have c12b0 : decide (97 ≤ (bt a0 x1_1)) = true := decide_eq_true c12
            clear c12
            by_cases c13 : (bt a0 x1_1) ≤ 102
            ·rw [if_pos c13] at H
             have c13b0 : decide ((bt a0 x1_1) ≤ 102) = true := decide_eq_true c13
             clear c13
             have H' := Aside0.mk H
             clear H
             go_wp2
             go_roundg kj8
             case measure => have := HK1.out; have := HJ2.out; have := HJ8.out; omega
             case rel => exact ⟨(wrap64 (x1_1 + 1)), (IntKind.u64.wrap ((IntKind.u64.wrap ((IntKind.u64.wrap (x6_1 * 16)) + (((bt a0 x1_1) - 97) % 256))) + 10)), (wrap64 (x7_1 + 1)), (by first | rfl | (simp; done) | (simp [*]; done) | exact isEmpty_bne _), (by first | rfl | (simp; done) | (simp [*]; done) | exact isEmpty_bne _), (by first | rfl | (simp; done) | (simp [*]; done) | exact isEmpty_bne _), H', ⟨by have := HK1.out; have := HJ2.out; have := HJ8.out; omega⟩, by repeat (first | exact Drawn0.refl _ | apply Drawn0.step)⟩
            ·rw [if_neg c13] at H
             have c13b0 : decide ((bt a0 x1_1) ≤ 102) = false := decide_eq_false c13
             clear c13
             simp only [Option.some.injEq, Prod.mk.injEq] at H
             obtain ⟨rfl, rfl⟩ := H
             go_wp2
             go_ret2
             exact ⟨by first | rfl | (simp; done) | (simp [*]; done) | exact isEmpty_bne _, by repeat (first | exact Drawn0.refl _ | apply Drawn0.step)⟩
           ·rw [if_neg c12] at H
            have c12b0 : decide (97 ≤ (bt a0 x1_1)) = false := decide_eq_false c12
            clear c12
            simp only [Option.some.injEq, Prod.mk.injEq] at H
            obtain ⟨rfl, rfl⟩ := H
            go_wp2
            go_ret2
            exact ⟨by first | rfl | (simp; done) | (simp [*]; done) | exact isEmpty_bne _, by repeat (first | exact Drawn0.refl _ | apply Drawn0.step)⟩
       ·rw [if_neg c7] at H
        exact absurd H (by simp)
      ·rw [if_neg c6] at H
       exact absurd H (by simp)
     ·replace c5 := Bool.eq_false_iff.mpr c5
      subst c5
      have H1 : (some (x6_1, x1_1)) = some (r1, r2) := by rw [if_neg (show ¬ (false = true) by decide)] at H; exact H
      clear H
      have H := H1
      clear H1
      simp only [Option.some.injEq, Prod.mk.injEq] at H
      obtain ⟨rfl, rfl⟩ := H
      go_wp2
      go_ret2
      exact ⟨by first | rfl | (simp; done) | (simp [*]; done) | exact isEmpty_bne _, by repeat (first | exact Drawn0.refl _ | apply Drawn0.step)⟩

-- GIVEN rounds=1 making=1 needs=logbook/logbookref29.digits,logbook/logbookref29.Text
/-! ### the reference's cursor: by hand: an array filled place by place -/
def refCur (k : Nat) (s : ByteArray) : Nat → Int → Option (List Int)
  | 0, _ => some []
  | d + 1, i => (logbookref29_digits.f k s i).bind fun r => if 0 ≤ r.2 ∧ r.2 ≤ 1000000000 then (refCur k s d (r.2 + 3)).bind fun q => some (r.1 :: q) else none
def refEnd (k : Nat) (s : ByteArray) : List Int → Option (Int × Int × Int × Int × Int × Int × Bool)
  | [a, b, c, d, e, f] => (logbookref29_Text.f k a b c d e f).bind fun t => if t.toList = s.toList then some (a, b, c, d, e, f, true) else some (0, 0, 0, 0, 0, 0, false)
  | _ => none
def logbookref29_Parse.f (k : Nat) (a0 : ByteArray) : Option (Int × Int × Int × Int × Int × Int × Bool) := (refCur k a0 6 2).bind (refEnd k a0)
theorem refCur_mono : ∀ s d i k, LeO (refCur k s d i) (refCur (k + 1) s d i)
  | s, 0, i, k => LeO.refl _
  | s, d + 1, i, k => by
    unfold refCur
    exact LeO.bind (logbookref29_digits.mono _ _ _) (fun r => LeO.ite (LeO.bind (refCur_mono s d _ k) (fun _ => LeO.refl _)) (LeO.refl _))
theorem refEnd_mono : ∀ s l k, LeO (refEnd k s l) (refEnd (k + 1) s l) := by
  intro s l k
  unfold refEnd
  split
  · exact LeO.bind (logbookref29_Text.mono _ _ _ _ _ _ _) (fun _ => LeO.refl _)
  · exact LeO.refl _
theorem logbookref29_Parse.mono : ∀ a0 k, LeO (logbookref29_Parse.f k a0) (logbookref29_Parse.f (k + 1) a0) := by
  intro a0 k
  unfold logbookref29_Parse.f
  exact LeO.bind (refCur_mono _ _ _ _) (fun _ => refEnd_mono _ _ _)
def rcur6 (acc : List Int) : Array Value := ((acc ++ List.replicate (6 - acc.length) 0).map (Value.int .u64)).toArray
theorem rcur6_get (acc : List Int) (q : Nat) (hq : acc.length = q ∧ q < 6) : (rcur6 acc)[q]? = some (.int .u64 0) := by
  unfold rcur6
  rw [List.getElem?_toArray, List.getElem?_map, List.getElem?_append_right (by omega), List.getElem?_replicate, if_pos (by omega)]
  rfl
theorem rcur6_put (acc : List Int) (q : Nat) (n : Int) (h : acc.length = q) (hq : q < 6) : rcur6 (acc ++ [n]) = (rcur6 acc).setIfInBounds q (.int .u64 n) := by
  subst h
  match acc, hq with
  | [], _ => rfl
  | [a], _ => rfl
  | [a, b], _ => rfl
  | [a, b, c], _ => rfl
  | [a, b, c, d], _ => rfl
  | [a, b, c, d, e], _ => rfl
  | a :: b :: c :: d :: e :: f :: r, hq => exact absurd hq (by simp only [List.length_cons]; omega)
set_option maxHeartbeats 6400000 in
set_option maxRecDepth 100000 in
theorem logbookref29_Parse.calls (k : Nat) (a0 : ByteArray) (r1 r2 r3 r4 r5 r6 : Int) (r7 : Bool) (w : World) (h : logbookref29_Parse.f k a0 = some (r1, r2, r3, r4, r5, r6, r7)) :
    Calls Tryd.prog 39 #[.string a0] w fun e w' => e = .returned (.tuple #[.agg #[.int .u64 r1, .int .u64 r2, .int .u64 r3, .int .u64 r4, .int .u64 r5, .int .u64 r6], .bool r7]) ∧ Below w.heap.size w w' := by
  unfold logbookref29_Parse.f at h
  obtain ⟨l, hl, h2⟩ := Option.bind_eq_some_iff.1 h
  clear h
  have hu := Tryd.underlying23
  have HBX : Hid (Below w.heap.size w ((w.alloc (.cells #[.int .u64 0, .int .u64 0, .int .u64 0, .int .u64 0, .int .u64 0, .int .u64 0] 23)).alloc (.cells #[.int .u64 0, .int .u64 0, .int .u64 0, .int .u64 0, .int .u64 0, .int .u64 0] 23))) := Lib.hid (((Below.refl _ _).alloc (Nat.le_refl _) _).alloc (by simp) _)
  have HR0 : Hid (((w.alloc (.cells #[.int .u64 0, .int .u64 0, .int .u64 0, .int .u64 0, .int .u64 0, .int .u64 0] 23)).alloc (.cells #[.int .u64 0, .int .u64 0, .int .u64 0, .int .u64 0, .int .u64 0, .int .u64 0] 23)).heap[w.heap.size]? = some (.cells #[.int .u64 0, .int .u64 0, .int .u64 0, .int .u64 0, .int .u64 0, .int .u64 0] 23 (0, 0))) := Lib.hid (blk_alloc (heap_alloc_new _ _) _)
  have hR1 := heap_alloc_new (w.alloc (.cells #[.int .u64 0, .int .u64 0, .int .u64 0, .int .u64 0, .int .u64 0, .int .u64 0] 23)) (.cells #[.int .u64 0, .int .u64 0, .int .u64 0, .int .u64 0, .int .u64 0, .int .u64 0] 23)
  rw [show (w.alloc (.cells #[.int .u64 0, .int .u64 0, .int .u64 0, .int .u64 0, .int .u64 0, .int .u64 0] 23)).heap.size = w.heap.size + 1 by simp] at hR1
  have HR1 := Lib.hid hR1
  obtain ⟨R0, hR0⟩ : ∃ R, R = refCur k a0 6 2 := ⟨_, rfl⟩
  rw [← hR0] at hl
  have HST : Hid (R0 = (refCur k a0 (6 - 0) 2).bind (fun o => some ([] ++ o))) := Lib.hid (by
    rw [hR0]
    show _ = (refCur k a0 6 2).bind _
    cases refCur k a0 6 2 with
    | none => rfl
    | some o => rfl)
  have HL := Lib.hid hl
  clear hR0
  have HE := Lib.hid h2
  clear hl h2 hR1
  go_enter Tryd.func39, Tryd.ntmps39
  go_wp2
  go_loopw [6, 5] (fun i at_ wr => ∃ (q : Nat) (acc : List Int) (z : Int), q ≤ 6 ∧ acc.length = q ∧ i = .int .i64 q ∧ at_ = .int .i64 z ∧ 0 ≤ z ∧ z ≤ 1000000003 ∧ Hid (R0 = (refCur k a0 (6 - q) z).bind (fun o => some (acc ++ o))) ∧ Hid (wr.heap[w.heap.size]? = some (.cells #[.int .u64 0, .int .u64 0, .int .u64 0, .int .u64 0, .int .u64 0, .int .u64 0] 23 (0, 0))) ∧ Hid (wr.heap[w.heap.size + 1]? = some (.cells (rcur6 acc) 23 (0, 0))) ∧ Hid (Below w.heap.size w wr)) (fun i _ _ => 6 - (intOf i).toNat)
  case atStart =>
    exact ⟨0, [], 2, by omega, rfl, rfl, rfl, by omega, by omega, HST, HR0, HR1, HBX⟩
  case round =>
    obtain ⟨q, acc, z, hq, hac, rfl, rfl, hz0, hz1, hcg, hO0, hO, hBr⟩ := hrel
    by_cases hlt : q < 6
    · have h := HL.out
      obtain ⟨d, hd⟩ : ∃ d, 6 - q = d + 1 := ⟨5 - q, by omega⟩
      have hcg2 := hcg.out
      rw [hd, refCur] at hcg2
      rw [hcg2] at h
      obtain ⟨o1, ho1, _⟩ := Option.bind_eq_some_iff.1 h
      obtain ⟨⟨n, z2⟩, hn, ho2⟩ := Option.bind_eq_some_iff.1 ho1
      by_cases hz2 : 0 ≤ z2 ∧ z2 ≤ 1000000000
      case neg => rw [if_neg hz2] at ho2; cases ho2
      obtain ⟨hz3, hz4⟩ := hz2
      have HN : Hid (R0 = (refCur k a0 (6 - (q + 1)) (z2 + 3)).bind (fun o => some ((acc ++ [n]) ++ o))) := Lib.hid (by
        rw [hcg2, hn, show 6 - (q + 1) = d by omega]
        show (if 0 ≤ z2 ∧ z2 ≤ 1000000000 then (refCur k a0 d (z2 + 3)).bind fun q => some (n :: q) else none).bind _ = _
        rw [if_pos ⟨hz3, hz4⟩]
        cases refCur k a0 d (z2 + 3) with
        | none => rfl
        | some o => simp)
      have HD := Lib.hid hn
      have q0 : (0 : Int) ≤ (q : Int) := by omega
      have q1 : (q : Int) < 6 := by omega
      clear h hd hcg2 ho1 ho2 hn hcg
      go_wp2_with (first
        | (go_at_call 54; (with_reducible refine (logbookref29_digits.calls k a0 _ n z2 _ HD.out).mono ?_); rintro e w3 ⟨rfl, nd, rfl⟩; have HB' := Lib.hid (pw_below_drewN hBr.out nd); have HO0' : Hid ((wr.drewN nd).heap[w.heap.size]? = some (.cells #[.int .u64 0, .int .u64 0, .int .u64 0, .int .u64 0, .int .u64 0, .int .u64 0] 23 (0, 0))) := Lib.hid hO0.out; have HO' : Hid ((wr.drewN nd).heap[w.heap.size + 1]? = some (.cells (rcur6 acc) 23 (0, 0))) := Lib.hid hO.out; have k5 := blk_cell HO'.out q; have f5 := blk_frozen HO'.out q; rw [rcur6_get acc q ⟨hac, by omega⟩] at k5))
      go_roundw
      case rel => exact ⟨q + 1, acc ++ [n], z2 + 3, by omega, by rw [List.length_append, hac]; rfl, by go_num, rfl, by omega, by omega, HN, Lib.hid (by rw [Below.heap_setCell _ _ _ _ (by simp)]; exact HO0'.out), Lib.hid (by rw [rcur6_put acc q n hac (by omega)]; exact blk_put HO'.out q _ rfl), Lib.hid (HB'.out.setCell (by simp) _)⟩
      case measure => simp [intOf]; omega
    · obtain rfl : q = 6 := by omega
      have h := HL.out
      rw [hcg.out] at h
      match acc, hac with
      | [x1, x2, x3, x4, x5, x6], _ =>
        have hl2 : l = [x1, x2, x3, x4, x5, x6] := by
          have h' : some ([x1, x2, x3, x4, x5, x6] ++ []) = some l := h
          rw [List.append_nil] at h'
          exact (Option.some.inj h').symm
        have he := HE.out
        rw [hl2] at he
        obtain ⟨tx, ht, he2⟩ := Option.bind_eq_some_iff.1 (show ((logbookref29_Text.f k x1 x2 x3 x4 x5 x6).bind fun t => if t.toList = a0.toList then some (x1, x2, x3, x4, x5, x6, true) else some (0, 0, 0, 0, 0, 0, false)) = some (r1, r2, r3, r4, r5, r6, r7) from he)
        have hO6 : Hid (wr.heap[w.heap.size + 1]? = some (.cells #[.int .u64 x1, .int .u64 x2, .int .u64 x3, .int .u64 x4, .int .u64 x5, .int .u64 x6] 23 (0, 0))) := hO
        have k0 := blk_cell hO6.out 0
        have k1 := blk_cell hO6.out 1
        have k2 := blk_cell hO6.out 2
        have k3 := blk_cell hO6.out 3
        have k4 := blk_cell hO6.out 4
        have k5 := blk_cell hO6.out 5
        simp at k0 k1 k2 k3 k4 k5
        have HT := Lib.hid ht
        clear h hcg hO he ht hl2
        by_cases hse : tx.toList = a0.toList
        · rw [if_pos hse] at he2
          have hz : Hid (r1 = x1 ∧ r2 = x2 ∧ r3 = x3 ∧ r4 = x4 ∧ r5 = x5 ∧ r6 = x6 ∧ r7 = true) := Lib.hid (by
            simp only [Option.some.injEq, Prod.mk.injEq] at he2
            obtain ⟨rfl, rfl, rfl, rfl, rfl, rfl, rfl⟩ := he2
            exact ⟨rfl, rfl, rfl, rfl, rfl, rfl, rfl⟩)
          have hsb : (tx.toList == a0.toList) = true := by simp [hse]
          clear he2 hse
          go_wp2_with (first
            | (go_at_call 29; (with_reducible refine (logbookref29_Text.calls k x1 x2 x3 x4 x5 x6 tx _ HT.out).mono ?_); rintro e w4 ⟨rfl, hb4⟩; have HB4 : Hid (Below w.heap.size w w4) := Lib.hid (hBr.out.trans (hb4.mono hBr.out.size)); have HO4 := Lib.hid (blk_below hO6.out hb4); have HZ4 := Lib.hid (blk_below hO0.out hb4); clear k0 k1 k2 k3 k4 k5; have k0 := blk_cell HO4.out 0; have k1 := blk_cell HO4.out 1; have k2 := blk_cell HO4.out 2; have k3 := blk_cell HO4.out 3; have k4 := blk_cell HO4.out 4; have k5 := blk_cell HO4.out 5; simp at k0 k1 k2 k3 k4 k5; clear hb4)
            | (refine store_ev rfl 23 _ _ rfl rfl w.heap.size #[.int .u64 x1, .int .u64 x2, .int .u64 x3, .int .u64 x4, .int .u64 x5, .int .u64 x6] rfl rfl 23 _ HZ4.out (by kernel_rfl) (by kernel_rfl) (by kernel_rfl) ?_; intro w9 hb9 hp9; have HB9 := Lib.hid hb9; have HP9 := Lib.hid hp9; clear hb9 hp9))
          refine bodyPost_ret (results_ct rfl _ _ w.heap.size 23 #[.int .u64 x1, .int .u64 x2, .int .u64 x3, .int .u64 x4, .int .u64 x5, .int .u64 x6] (0, 0) _ rfl HB9.out hu rfl (by kernel_rfl)) rfl ?_
          obtain ⟨rfl, rfl, rfl, rfl, rfl, rfl, rfl⟩ := hz.out
          exact ⟨rfl, HP9.out.below HB4.out (Nat.le_refl _)⟩
        · rw [if_neg hse] at he2
          have hz : Hid (r1 = 0 ∧ r2 = 0 ∧ r3 = 0 ∧ r4 = 0 ∧ r5 = 0 ∧ r6 = 0 ∧ r7 = false) := Lib.hid (by
            simp only [Option.some.injEq, Prod.mk.injEq] at he2
            obtain ⟨rfl, rfl, rfl, rfl, rfl, rfl, rfl⟩ := he2
            exact ⟨rfl, rfl, rfl, rfl, rfl, rfl, rfl⟩)
          have hsb : (tx.toList == a0.toList) = false := by simp [hse]
          clear he2 hse
          go_wp2_with (first
            | (go_at_call 29; (with_reducible refine (logbookref29_Text.calls k x1 x2 x3 x4 x5 x6 tx _ HT.out).mono ?_); rintro e w4 ⟨rfl, hb4⟩; have HB4 : Hid (Below w.heap.size w w4) := Lib.hid (hBr.out.trans (hb4.mono hBr.out.size)); have HZ4 := Lib.hid (blk_below hO0.out hb4); clear hb4)
            | (refine store_ev rfl 23 _ _ rfl rfl w.heap.size #[.int .u64 0, .int .u64 0, .int .u64 0, .int .u64 0, .int .u64 0, .int .u64 0] rfl rfl 23 _ HZ4.out (by kernel_rfl) (by kernel_rfl) (by kernel_rfl) ?_; intro w9 hb9 hp9; have HB9 := Lib.hid hb9; have HP9 := Lib.hid hp9; clear hb9 hp9))
          refine bodyPost_ret (results_ct rfl _ _ w.heap.size 23 #[.int .u64 0, .int .u64 0, .int .u64 0, .int .u64 0, .int .u64 0, .int .u64 0] (0, 0) _ rfl HB9.out hu rfl (by kernel_rfl)) rfl ?_
          obtain ⟨rfl, rfl, rfl, rfl, rfl, rfl, rfl⟩ := hz.out
          exact ⟨rfl, HP9.out.below HB4.out (Nat.le_refl _)⟩

/-! ### logbookref01_Get: function 55 -/
mutual
def logbookref01_Get.j0 : Nat → List Int → Int → Int → Bool → Option (Int × Bool)
 | 0, _, _, _, _ => none
 | k + 1, x0, x1, x2, x42 => if x42 = true then (some (0, false)) else (logbookref01_Get.l0 k x0 x1 x2 0 1 0)
def logbookref01_Get.l0 : Nat → List Int → Int → Int → Int → Int → Int → Option (Int × Bool)
 | 0, _, _, _, _, _, _ => none
 | k + 1, x0, x1, x2, x8, x9, x10 => if x10 < x2 then (if 0 ≤ (wrap64 (x1 + x10)) then (if (wrap64 (x1 + x10)) < (x0.length : Int) then (logbookref01_Get.l0 k x0 x1 x2 (IntKind.u64.wrap (x8 + (IntKind.u64.wrap (x9 * (IntKind.u64.wrap (rd x0 (wrap64 (x1 + x10)))))))) (IntKind.u64.wrap (x9 * 256)) (wrap64 (x10 + 1))) else (none)) else (none)) else (some (x8, true))
end
def logbookref01_Get.f (k : Nat) (l0 : List Int) (a1 : Int) (a2 : Int) : Option (Int × Bool) := if a2 = 1 then (if a1 < 0 then (logbookref01_Get.j0 k l0 a1 a2 true) else (if a1 > (l0.length : Int) then (logbookref01_Get.j0 k l0 a1 a2 true) else (logbookref01_Get.j0 k l0 a1 a2 (decide (a2 > (wrap64 ((l0.length : Int) - a1))))))) else (if a2 = 2 then (if a1 < 0 then (logbookref01_Get.j0 k l0 a1 a2 true) else (if a1 > (l0.length : Int) then (logbookref01_Get.j0 k l0 a1 a2 true) else (logbookref01_Get.j0 k l0 a1 a2 (decide (a2 > (wrap64 ((l0.length : Int) - a1))))))) else (if a2 = 4 then (if a1 < 0 then (logbookref01_Get.j0 k l0 a1 a2 true) else (if a1 > (l0.length : Int) then (logbookref01_Get.j0 k l0 a1 a2 true) else (logbookref01_Get.j0 k l0 a1 a2 (decide (a2 > (wrap64 ((l0.length : Int) - a1))))))) else (if a2 = 8 then (if a1 < 0 then (logbookref01_Get.j0 k l0 a1 a2 true) else (if a1 > (l0.length : Int) then (logbookref01_Get.j0 k l0 a1 a2 true) else (logbookref01_Get.j0 k l0 a1 a2 (decide (a2 > (wrap64 ((l0.length : Int) - a1))))))) else (logbookref01_Get.j0 k l0 a1 a2 true))))
theorem logbookref01_Get.mono_l : ∀ k, (∀ y0 y1 y2 y3, LeO (logbookref01_Get.j0 k y0 y1 y2 y3) (logbookref01_Get.j0 (k + 1) y0 y1 y2 y3)) ∧ (∀ y0 y1 y2 y3 y4 y5, LeO (logbookref01_Get.l0 k y0 y1 y2 y3 y4 y5) (logbookref01_Get.l0 (k + 1) y0 y1 y2 y3 y4 y5))
 | 0 => ⟨fun _ _ _ _ r h => by simp [logbookref01_Get.j0] at h, fun _ _ _ _ _ _ r h => by simp [logbookref01_Get.l0] at h⟩
 | k + 1 => by
  obtain ⟨ih0, ih1⟩ := logbookref01_Get.mono_l k
  refine ⟨?_, ?_⟩
  ·intro y0 y1 y2 y3
   unfold logbookref01_Get.j0
   repeat' first
   | (with_reducible exact ih0 _ _ _ _)
   | (with_reducible exact ih1 _ _ _ _ _ _)
   | (with_reducible exact LeO.refl _)
   | (with_reducible exact LeO.none _)
   | (with_reducible refine LeO.ite ?_ ?_)
   | (with_reducible refine LeO.bind ?_ (fun _ => ?_))
   | exact ih0 _ _ _ _
   | exact ih1 _ _ _ _ _ _
   | exact LeO.none _
   | refine LeO.ite ?_ ?_
   | refine LeO.bind ?_ (fun _ => ?_)
  ·intro y0 y1 y2 y3 y4 y5
   unfold logbookref01_Get.l0
   repeat' first
   | (with_reducible exact ih0 _ _ _ _)
   | (with_reducible exact ih1 _ _ _ _ _ _)
   | (with_reducible exact LeO.refl _)
   | (with_reducible exact LeO.none _)
   | (with_reducible refine LeO.ite ?_ ?_)
   | (with_reducible refine LeO.bind ?_ (fun _ => ?_))
   | exact ih0 _ _ _ _
   | exact ih1 _ _ _ _ _ _
   | exact LeO.none _
   | refine LeO.ite ?_ ?_
   | refine LeO.bind ?_ (fun _ => ?_)
theorem logbookref01_Get.mono : ∀ a0 a1 a2 k, LeO (logbookref01_Get.f k a0 a1 a2) (logbookref01_Get.f (k + 1) a0 a1 a2) := by
 intro a0 a1 a2 k
 obtain ⟨ih0, ih1⟩ := logbookref01_Get.mono_l k
 unfold logbookref01_Get.f
 repeat' first
   | (with_reducible exact ih0 _ _ _ _)
   | (with_reducible exact ih1 _ _ _ _ _ _)
   | (with_reducible exact LeO.refl _)
   | (with_reducible exact LeO.none _)
   | (with_reducible refine LeO.ite ?_ ?_)
   | (with_reducible refine LeO.bind ?_ (fun _ => ?_))
   | exact ih0 _ _ _ _
   | exact ih1 _ _ _ _ _ _
   | exact LeO.none _
   | refine LeO.ite ?_ ?_
   | refine LeO.bind ?_ (fun _ => ?_)
set_option maxHeartbeats 8000000 in
set_option maxRecDepth 100000 in
theorem logbookref01_Get.calls (k : Nat) (A0 : Option Addr) (c0 : Nat) (l0 : List Int) (a1 : Int) (a2 : Int) (r1 : Int) (r2 : Bool) (w : World) (hr0 : Kd.C (Kd.int .u8) w A0 l0.length l0) (hc0 : l0.length ≤ c0) (h : logbookref01_Get.f k l0 a1 a2 = some (r1, r2)) :
  Calls Tryd.prog 55 #[.slice A0 l0.length c0, .int .i64 a1, .int .i64 a2] w fun e w' => e = .returned (.tuple #[.int .u64 r1, .bool r2]) ∧ Drawn0 w w' := by
 have HR0 := Aside0.mk hr0
 have HC0 := Aside0.mk hc0
 clear hr0 hc0
 have H : (if a2 = 1 then (if a1 < 0 then (logbookref01_Get.j0 k l0 a1 a2 true) else (if a1 > (l0.length : Int) then (logbookref01_Get.j0 k l0 a1 a2 true) else (logbookref01_Get.j0 k l0 a1 a2 (decide (a2 > (wrap64 ((l0.length : Int) - a1))))))) else (if a2 = 2 then (if a1 < 0 then (logbookref01_Get.j0 k l0 a1 a2 true) else (if a1 > (l0.length : Int) then (logbookref01_Get.j0 k l0 a1 a2 true) else (logbookref01_Get.j0 k l0 a1 a2 (decide (a2 > (wrap64 ((l0.length : Int) - a1))))))) else (if a2 = 4 then (if a1 < 0 then (logbookref01_Get.j0 k l0 a1 a2 true) else (if a1 > (l0.length : Int) then (logbookref01_Get.j0 k l0 a1 a2 true) else (logbookref01_Get.j0 k l0 a1 a2 (decide (a2 > (wrap64 ((l0.length : Int) - a1))))))) else (if a2 = 8 then (if a1 < 0 then (logbookref01_Get.j0 k l0 a1 a2 true) else (if a1 > (l0.length : Int) then (logbookref01_Get.j0 k l0 a1 a2 true) else (logbookref01_Get.j0 k l0 a1 a2 (decide (a2 > (wrap64 ((l0.length : Int) - a1))))))) else (logbookref01_Get.j0 k l0 a1 a2 true))))) = some (r1, r2) := h
 clear h
 have HC4 := Aside0.mk H
 clear H
 go_enter Tryd.func55, Tryd.ntmps55
 go_upto_region 1 with (fail)
 go_cut [42] (fun v42 wc => ∃ (kq : Nat) (x42_3 : Bool), v42 = .bool x42_3 ∧ Aside0 (logbookref01_Get.j0 kq l0 a1 a2 x42_3 = some (r1, r2)) ∧ Aside0 (kq ≤ k) ∧ Drawn0 w wc)
 case first =>
  have H := HC4.out
  clear HC4
  by_cases c5 : a2 = 1
  ·rw [if_pos c5] at H
   have c5b0 : (a2 == 1) = true := beq_iff_eq.mpr c5
   have c5b1 : (a2 != 1) = false := bne_eq_false_iff_eq.mpr c5
   clear c5
   (first | rw [c5b0] | (simp only [i64_w, i32_w]; rw [c5b0]) | skip)
   by_cases c6 : a1 < 0
   ·rw [if_pos c6] at H
    have c6b0 : decide (a1 < 0) = true := decide_eq_true c6
    clear c6
    have H' := Aside0.mk H
    clear H
    go_wp2
    go_meet
    case rel => exact ⟨_, (true), (by first | rfl | (simp; done) | (simp [*]; done) | exact isEmpty_bne _), H', ⟨by first | omega | exact Nat.le_refl _⟩, by repeat (first | exact Drawn0.refl _ | apply Drawn0.step)⟩
   ·rw [if_neg c6] at H
    have c6b0 : decide (a1 < 0) = false := decide_eq_false c6
    clear c6
    by_cases c7 : a1 > (l0.length : Int)
    ·rw [if_pos c7] at H
     have c7b0 : decide ((l0.length : Int) < a1) = true := decide_eq_true c7
     clear c7
     have H' := Aside0.mk H
     clear H
     go_wp2
     go_meet
     case rel => exact ⟨_, (true), (by first | rfl | (simp; done) | (simp [*]; done) | exact isEmpty_bne _), H', ⟨by first | omega | exact Nat.le_refl _⟩, by repeat (first | exact Drawn0.refl _ | apply Drawn0.step)⟩
    ·rw [if_neg c7] at H
     have c7b0 : decide ((l0.length : Int) < a1) = false := decide_eq_false c7
     clear c7
     have H' := Aside0.mk H
     clear H
     go_wp2
     go_meet
     case rel => exact ⟨_, (decide (a2 > (wrap64 ((l0.length : Int) - a1)))), (by first | rfl | (simp; done) | (simp [*]; done) | exact isEmpty_bne _), H', ⟨by first | omega | exact Nat.le_refl _⟩, by repeat (first | exact Drawn0.refl _ | apply Drawn0.step)⟩
  ·rw [if_neg c5] at H
   have c5b0 : (a2 == 1) = false := beq_eq_false_iff_ne.mpr c5
   have c5b1 : (a2 != 1) = true := bne_iff_ne.mpr c5
   (first | rw [c5b0] | (simp only [i64_w, i32_w]; rw [c5b0]) | skip)
   by_cases c8 : a2 = 2
   ·rw [if_pos c8] at H
    have c8b0 : (a2 == 2) = true := beq_iff_eq.mpr c8
    have c8b1 : (a2 != 2) = false := bne_eq_false_iff_eq.mpr c8
    clear c8
    by_cases c9 : a1 < 0
    ·rw [if_pos c9] at H
     have c9b0 : decide (a1 < 0) = true := decide_eq_true c9
     clear c9
     have H' := Aside0.mk H
     clear H
     go_wp2
     go_meet
     case rel => exact ⟨_, (true), (by first | rfl | (simp; done) | (simp [*]; done) | exact isEmpty_bne _), H', ⟨by first | omega | exact Nat.le_refl _⟩, by repeat (first | exact Drawn0.refl _ | apply Drawn0.step)⟩
    ·rw [if_neg c9] at H
     have c9b0 : decide (a1 < 0) = false := decide_eq_false c9
     clear c9
     by_cases c10 : a1 > (l0.length : Int)
     ·rw [if_pos c10] at H
      have c10b0 : decide ((l0.length : Int) < a1) = true := decide_eq_true c10
      clear c10
      have H' := Aside0.mk H
      clear H
      go_wp2
      go_meet
      case rel => exact ⟨_, (true), (by first | rfl | (simp; done) | (simp [*]; done) | exact isEmpty_bne _), H', ⟨by first | omega | exact Nat.le_refl _⟩, by repeat (first | exact Drawn0.refl _ | apply Drawn0.step)⟩
     ·rw [if_neg c10] at H
      have c10b0 : decide ((l0.length : Int) < a1) = false := decide_eq_false c10
      clear c10
      have H' := Aside0.mk H
      clear H
      go_wp2
      go_meet
      case rel => exact ⟨_, (decide (a2 > (wrap64 ((l0.length : Int) - a1)))), (by first | rfl | (simp; done) | (simp [*]; done) | exact isEmpty_bne _), H', ⟨by first | omega | exact Nat.le_refl _⟩, by repeat (first | exact Drawn0.refl _ | apply Drawn0.step)⟩
   ·rw [if_neg c8] at H
    have c8b0 : (a2 == 2) = false := beq_eq_false_iff_ne.mpr c8
    have c8b1 : (a2 != 2) = true := bne_iff_ne.mpr c8
    by_cases c11 : a2 = 4
    ·rw [if_pos c11] at H
     have c11b0 : (a2 == 4) = true := beq_iff_eq.mpr c11
     have c11b1 : (a2 != 4) = false := bne_eq_false_iff_eq.mpr c11
     clear c11
     by_cases c12 : a1 < 0
     ·rw [if_pos c12] at H
      have c12b0 : decide (a1 < 0) = true := decide_eq_true c12
      clear c12
      have H' := Aside0.mk H
      clear H
      go_wp2
      go_meet
      case rel => exact ⟨_, (true), (by first | rfl | (simp; done) | (simp [*]; done) | exact isEmpty_bne _), H', ⟨by first | omega | exact Nat.le_refl _⟩, by repeat (first | exact Drawn0.refl _ | apply Drawn0.step)⟩
     ·rw [if_neg c12] at H
      have c12b0 : decide (a1 < 0) = false := decide_eq_false c12
      clear c12
      by_cases c13 : a1 > (l0.length : Int)
      ·rw [if_pos c13] at H
       have c13b0 : decide ((l0.length : Int) < a1) = true := decide_eq_true c13
       clear c13
       have H' := Aside0.mk H
       clear H
       go_wp2
       go_meet
       case rel => exact ⟨_, (true), (by first | rfl | (simp; done) | (simp [*]; done) | exact isEmpty_bne _), H', ⟨by first | omega | exact Nat.le_refl _⟩, by repeat (first | exact Drawn0.refl _ | apply Drawn0.step)⟩
      ·rw [if_neg c13] at H
       have c13b0 : decide ((l0.length : Int) < a1) = false := decide_eq_false c13
       clear c13
       have H' := Aside0.mk H
       clear H
       go_wp2
       go_meet
       case rel => exact ⟨_, (decide (a2 > (wrap64 ((l0.length : Int) - a1)))), (by first | rfl | (simp; done) | (simp [*]; done) | exact isEmpty_bne _), H', ⟨by first | omega | exact Nat.le_refl _⟩, by repeat (first | exact Drawn0.refl _ | apply Drawn0.step)⟩
    ·rw [if_neg c11] at H
     have c11b0 : (a2 == 4) = false := beq_eq_false_iff_ne.mpr c11
     have c11b1 : (a2 != 4) = true := bne_iff_ne.mpr c11
     by_cases c14 : a2 = 8
     ·rw [if_pos c14] at H
      have c14b0 : (a2 == 8) = true := beq_iff_eq.mpr c14
      have c14b1 : (a2 != 8) = false := bne_eq_false_iff_eq.mpr c14
      clear c14
      by_cases c15 : a1 < 0
      ·rw [if_pos c15] at H
       have c15b0 : decide (a1 < 0) = true := decide_eq_true c15
       clear c15
       have H' := Aside0.mk H
       clear H
       go_wp2
       go_meet
       case rel => exact ⟨_, (true), (by first | rfl | (simp; done) | (simp [*]; done) | exact isEmpty_bne _), H', ⟨by first | omega | exact Nat.le_refl _⟩, by repeat (first | exact Drawn0.refl _ | apply Drawn0.step)⟩
      ·rw [if_neg c15] at H
       have c15b0 : decide (a1 < 0) = false := decide_eq_false c15
       clear c15
       by_cases c16 : a1 > (l0.length : Int)
       ·rw [if_pos c16] at H
        have c16b0 : decide ((l0.length : Int) < a1) = true := decide_eq_true c16
        clear c16
        have H' := Aside0.mk H
        clear H
        go_wp2
        go_meet
        case rel => exact ⟨_, (true), (by first | rfl | (simp; done) | (simp [*]; done) | exact isEmpty_bne _), H', ⟨by first | omega | exact Nat.le_refl _⟩, by repeat (first | exact Drawn0.refl _ | apply Drawn0.step)⟩
       ·rw [if_neg c16] at H
        have c16b0 : decide ((l0.length : Int) < a1) = false := decide_eq_false c16
        clear c16
        have H' := Aside0.mk H
        clear H
        go_wp2
        go_meet
        case rel => exact ⟨_, (decide (a2 > (wrap64 ((l0.length : Int) - a1)))), (by first | rfl | (simp; done) | (simp [*]; done) | exact isEmpty_bne _), H', ⟨by first | omega | exact Nat.le_refl _⟩, by repeat (first | exact Drawn0.refl _ | apply Drawn0.step)⟩
     ·rw [if_neg c14] at H
      have c14b0 : (a2 == 8) = false := beq_eq_false_iff_ne.mpr c14
      have c14b1 : (a2 != 8) = true := bne_iff_ne.mpr c14
      have H' := Aside0.mk H
      clear H
      go_wp2
      go_meet
      case rel => exact ⟨_, (true), (by first | rfl | (simp; done) | (simp [*]; done) | exact isEmpty_bne _), H', ⟨by first | omega | exact Nat.le_refl _⟩, by repeat (first | exact Drawn0.refl _ | apply Drawn0.step)⟩
 case rest =>
  clear HC4
  try clear c1
  try clear p2
  try clear c5
  try clear c5b0
  try clear c5b1
  try clear c6
  try clear c6b0
  try clear p6
  try clear c7
  try clear c7b0
  try clear c8
  try clear c8b0
  try clear c8b1
  try clear c9
  try clear c9b0
  try clear c10
  try clear c10b0
  try clear c11
  try clear c11b0
  try clear c11b1
  try clear c12
  try clear c12b0
  try clear c13
  try clear c13b0
  try clear c14
  try clear c14b0
  try clear c14b1
  try clear c15
  try clear c15b0
  try clear c16
  try clear c16b0
  obtain ⟨kq, x42_3, rfl, HA, HJ3, ⟨mc3, rfl⟩⟩ := hcut
  cases kq with
  | zero => exact absurd HA.out (by simp [logbookref01_Get.j0])
  | succ kj3 =>
   have H := HA.out
   clear HA
   simp only [logbookref01_Get.j0] at H
   by_cases c17 : x42_3 = true
   ·subst c17
    have H1 : (some (0, false)) = some (r1, r2) := by rw [if_pos rfl] at H; exact H
    clear H
    have H := H1
    clear H1
    simp only [Option.some.injEq, Prod.mk.injEq] at H
    obtain ⟨rfl, rfl⟩ := H
    go_wp2
    go_ret2
    exact ⟨by first | rfl | (simp; done) | (simp [*]; done) | exact isEmpty_bne _, by repeat (first | exact Drawn0.refl _ | apply Drawn0.step)⟩
   ·replace c17 := Bool.eq_false_iff.mpr c17
    subst c17
    have H1 : (logbookref01_Get.l0 kj3 l0 a1 a2 0 1 0) = some (r1, r2) := by rw [if_neg (show ¬ (false = true) by decide)] at H; exact H
    clear H
    have H := H1
    clear H1
    have H' := Aside0.mk H
    clear H
    go_wp2
    go_loopg [8, 9, 10] kj3 (fun kq v8 v9 v10 w' => ∃ (x8_2 : Int) (x9_2 : Int) (x10_2 : Int), v8 = .int .u64 x8_2 ∧ v9 = .int .u64 x9_2 ∧ v10 = .int .i64 x10_2 ∧ Aside0 (logbookref01_Get.l0 kq l0 a1 a2 x8_2 x9_2 x10_2 = some (r1, r2)) ∧ Aside0 (kq ≤ kj3) ∧ Drawn0 w w')
    case atStart => exact ⟨(0), (1), (0), (by first | rfl | (simp; done) | (simp [*]; done) | exact isEmpty_bne _), (by first | rfl | (simp; done) | (simp [*]; done) | exact isEmpty_bne _), (by first | rfl | (simp; done) | (simp [*]; done) | exact isEmpty_bne _), H', ⟨Nat.le_refl _⟩, by repeat (first | exact Drawn0.refl _ | apply Drawn0.step)⟩
    case round =>
     clear H'
     try clear c1
     try clear p2
     try clear c3
     try clear c5
     try clear c5b0
     try clear c5b1
     try clear c6
     try clear c6b0
     try clear p6
     try clear c7
     try clear c7b0
     try clear c8
     try clear c8b0
     try clear c8b1
     try clear c9
     try clear c9b0
     try clear c10
     try clear c10b0
     try clear c11
     try clear c11b0
     try clear c11b1
     try clear c12
     try clear c12b0
     try clear c13
     try clear c13b0
     try clear c14
     try clear c14b0
     try clear c14b1
     try clear c15
     try clear c15b0
     try clear c16
     try clear c16b0
     try clear c17
     try clear p2
     try clear p6
     obtain ⟨x8_2, x9_2, x10_2, rfl, rfl, rfl, HA, HK2, ⟨m2, rfl⟩⟩ := hrel
     cases gk with
     | zero => exact absurd HA.out (by simp [logbookref01_Get.l0])
     | succ k2 =>
      have H := HA.out
      clear HA
      simp only [logbookref01_Get.l0] at H
      by_cases c18 : x10_2 < a2
      ·rw [if_pos c18] at H
       have c18b0 : decide (x10_2 < a2) = true := decide_eq_true c18
       clear c18
       obtain ⟨ji19, hji19⟩ : ∃ j_ : Int, (wrap64 (a1 + x10_2)) = j_ := ⟨_, rfl⟩
       replace H : (if 0 ≤ (ji19) then (if (ji19) < (l0.length : Int) then (logbookref01_Get.l0 k2 l0 a1 a2 (IntKind.u64.wrap (x8_2 + (IntKind.u64.wrap (x9_2 * (IntKind.u64.wrap (rd l0 (ji19))))))) (IntKind.u64.wrap (x9_2 * 256)) (wrap64 (x10_2 + 1))) else (none)) else (none)) = some (r1, r2) := by first | (rw [hji19] at H; exact H) | (simp only [hji19] at H ⊢; exact H)
       have hji19w : (IntKind.i64.wrap (a1 + x10_2)) = ji19 := (i64_w _).trans hji19
       by_cases c20 : 0 ≤ (ji19)
       ·rw [if_pos c20] at H
        have c20b0 : decide (0 ≤ (ji19)) = true := decide_eq_true c20
        clear c20
        by_cases c21 : (ji19) < (l0.length : Int)
        ·rw [if_pos c21] at H
         have c21b0 : decide ((ji19) < (l0.length : Int)) = true := decide_eq_true c21
         clear c21
         have H' := Aside0.mk H
         clear H
         have p198 : 0 ≤ ((ji19) : Int) := of_decide_eq_true (by first | (with_reducible assumption) | assumption)
         have q198 : (ji19) < (l0.length : Int) := of_decide_eq_true (by first | (with_reducible assumption) | assumption)
         obtain ⟨ad198, e198, hx198_0⟩ := Kd.at_int HR0.out (ji19) p198 q198
         cases e198
         replace p198 := eq_true p198
         replace q198 := eq_true q198
         go_wp2
         go_roundg k2
         case measure => have := HJ3.out; have := HK2.out; omega
         case rel => exact ⟨(IntKind.u64.wrap (x8_2 + (IntKind.u64.wrap (x9_2 * (IntKind.u64.wrap (rd l0 (ji19))))))), (IntKind.u64.wrap (x9_2 * 256)), (wrap64 (x10_2 + 1)), (by first | rfl | (simp; done) | (simp only [← hji19] <;> (first | rfl | simp)) | (simp [*]; done)), (by first | rfl | (simp; done) | (simp [*]; done) | exact isEmpty_bne _), (by first | rfl | (simp; done) | (simp [*]; done) | exact isEmpty_bne _), H', ⟨by have := HJ3.out; have := HK2.out; omega⟩, by repeat (first | exact Drawn0.refl _ | apply Drawn0.step)⟩
        ·rw [if_neg c21] at H
         exact absurd H (by simp)
       ·rw [if_neg c20] at H
        exact absurd H (by simp)
      ·rw [if_neg c18] at H
       have c18b0 : decide (x10_2 < a2) = false := decide_eq_false c18
       clear c18
       simp only [Option.some.injEq, Prod.mk.injEq] at H
       obtain ⟨rfl, rfl⟩ := H
       go_wp2
       go_ret2
       exact ⟨by first | rfl | (simp; done) | (simp [*]; done) | exact isEmpty_bne _, by repeat (first | exact Drawn0.refl _ | apply Drawn0.step)⟩

end Go.Proofs.YtbbegchdlkmebaaDoor.PExportReads
