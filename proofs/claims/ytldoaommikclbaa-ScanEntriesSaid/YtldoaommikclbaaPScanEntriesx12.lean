-- LAID BY gprint.py: a scratch copy of the print, with functions that this session proved by hand among the printed ones
import Derived.Test.YtldoaommikclbaaPScanEntriesx0
import Derived.Test.YtldoaommikclbaaPScanEntriesx11
namespace Go.Proofs.Ytldoaommikclbaa.PScanEntries
open Go.RowKit Go.Proofs.YtldoaommikclbaaW.PrintWords Go.Proofs.YtldoaommikclbaaW.PrintLast Go.Proofs.Ytldoaommikclbaa.Conv Go.Proofs.YtldoaommikclbaaW.PrintMore
attribute [local go_sem] max2_int min2_int max_two min_two max_three min_three max_four min_four gtr_less   -- for this text's walks alone
set_option linter.unusedVariables false
set_option linter.unusedSimpArgs false

/-! ### logbookref17_Entries: function 13 -/
def logbookref17_Entries.l0 : Nat → List Int → Int → List (S57) → List (S33) → Int → Option ((List (S57)) × Bool)
 | 0, _, _, _, _, _ => none
 | k + 1, x0, x1, x8, x9, x10 => if x10 < (x9.length : Int) then (if 0 ≤ x10 then (if ((rd_T33 x9 x10).f2.f0) = 3 then ((logbookref17_Items.f k x0 x1 ((rd_T33 x9 x10).f0) ((rd_T33 x9 x10).f2.f0) ((rd_T33 x9 x10).f2.f1) ((rd_T33 x9 x10).f2.f2) ((rd_T33 x9 x10).f2.f3)).bind fun bt253 => (if bt253.2 = true then (if 0 < (((rd_T33 x9 x10).f2.f1).length : Int) then (if 1 < (((rd_T33 x9 x10).f2.f1).length : Int) then (if 2 < (((rd_T33 x9 x10).f2.f1).length : Int) then (if 3 < (((rd_T33 x9 x10).f2.f1).length : Int) then (if x8.length < 2513169434916 then (logbookref17_Entries.l0 k x0 x1 (x8 ++ [(⟨rd ((rd_T33 x9 x10).f2.f1) 0, rd ((rd_T33 x9 x10).f2.f1) 1, rd ((rd_T33 x9 x10).f2.f1) 2, rd ((rd_T33 x9 x10).f2.f1) 3, bt253.1⟩ : S57)]) x9 (wrap64 (x10 + 1))) else (none)) else (none)) else (none)) else (none)) else (none)) else (some (([] : List (S57)), false)))) else (logbookref17_Entries.l0 k x0 x1 x8 x9 (wrap64 (x10 + 1)))) else (none)) else (some (x8, true))
def logbookref17_Entries.f (k : Nat) (l0 : List Int) (a1 : Int) (a2 : Int) : Option ((List (S57)) × Bool) := (logbookref17_All.f k l0 a1 a2).bind fun t247 => (logbookref17_Entries.l0 k l0 a1 ([] : List (S57)) t247 0)
theorem logbookref17_Entries.mono_l : ∀ k, (∀ y0 y1 y2 y3 y4, LeO (logbookref17_Entries.l0 k y0 y1 y2 y3 y4) (logbookref17_Entries.l0 (k + 1) y0 y1 y2 y3 y4))
 | 0 => fun _ _ _ _ _ r h => by simp [logbookref17_Entries.l0] at h
 | k + 1 => by
  have ih0 := logbookref17_Entries.mono_l k
  ·intro y0 y1 y2 y3 y4
   unfold logbookref17_Entries.l0
   repeat' first
   | (with_reducible exact ih0 _ _ _ _ _)
   | (with_reducible exact logbookref17_All.mono _ _ _ _)
   | (with_reducible exact logbookref17_Items.mono _ _ _ _ _ _ _ _)
   | (with_reducible exact LeO.refl _)
   | (with_reducible exact LeO.none _)
   | (with_reducible refine LeO.ite ?_ ?_)
   | (with_reducible refine LeO.bind ?_ (fun _ => ?_))
   | exact ih0 _ _ _ _ _
   | exact logbookref17_All.mono _ _ _ _
   | exact logbookref17_Items.mono _ _ _ _ _ _ _ _
   | exact LeO.none _
   | refine LeO.ite ?_ ?_
   | refine LeO.bind ?_ (fun _ => ?_)
theorem logbookref17_Entries.mono : ∀ a0 a1 a2 k, LeO (logbookref17_Entries.f k a0 a1 a2) (logbookref17_Entries.f (k + 1) a0 a1 a2) := by
 intro a0 a1 a2 k
 have ih0 := logbookref17_Entries.mono_l k
 unfold logbookref17_Entries.f
 repeat' first
   | (with_reducible exact ih0 _ _ _ _ _)
   | (with_reducible exact logbookref17_All.mono _ _ _ _)
   | (with_reducible exact logbookref17_Items.mono _ _ _ _ _ _ _ _)
   | (with_reducible exact LeO.refl _)
   | (with_reducible exact LeO.none _)
   | (with_reducible refine LeO.ite ?_ ?_)
   | (with_reducible refine LeO.bind ?_ (fun _ => ?_))
   | exact ih0 _ _ _ _ _
   | exact logbookref17_All.mono _ _ _ _
   | exact logbookref17_Items.mono _ _ _ _ _ _ _ _
   | exact LeO.none _
   | refine LeO.ite ?_ ?_
   | refine LeO.bind ?_ (fun _ => ?_)
def logbookref17_Entries.T7 : Bool × List (List Nat × List Nat) := (true, [([], []), ([], []), ([], []), ([], []), ([2, 3], [2, 3]), ([4], [4]), ([5], [5]), ([], []), ([], []), ([7, 8], [7, 8]), ([9], [9]), ([10], [10]), ([0, 1, 6, 11], [0, 1, 6, 11]), ([12], [12]), ([13], [13]), ([13], [13]), ([14, 12, 0, 1, 2, 3, 4, 5, 6, 7, 8, 9, 10, 11, 12, 13, 14], [14]), ([15, 16, 0, 1, 2, 3, 4, 5, 6, 7, 8, 9, 10, 11, 12, 13, 14, 15, 16], [15])])
def logbookref17_Entries.B7 : List Nat := [0, 0, 0, 0, 12, 28, 60, 0, 0, 384, 896, 1920, 4095, 8191, 16383, 16383, 32767, 131071]
theorem logbookref17_Entries.tab7 : rtab .any (opsOf Try.f13 7) = logbookref17_Entries.T7 := by kernel_rfl
theorem logbookref17_Entries.bits7 : waitsOk logbookref17_Entries.T7.2 logbookref17_Entries.B7 = true := by kernel_rfl
def logbookref17_Entries.T11 : Bool × List (List Nat × List Nat) := (true, [([], []), ([], []), ([1], [1]), ([2], [2]), ([], []), ([4], [4]), ([5], [5]), ([], []), ([7], [7]), ([8], [8]), ([], []), ([10], [10]), ([11], [11]), ([], []), ([3, 6, 9, 12, 13], [3, 6, 9, 12, 13]), ([14], [14]), ([0, 15], [0, 15]), ([16, 16, 0, 1, 2, 3, 4, 5, 6, 7, 8, 9, 10, 11, 12, 13, 14, 15, 16], [0, 16])])
def logbookref17_Entries.B11 : List Nat := [0, 0, 2, 6, 0, 16, 48, 0, 128, 384, 0, 1024, 3072, 0, 16382, 32766, 65535, 131071]
theorem logbookref17_Entries.tab11 : rtab .any (opsOf Try.f13 11) = logbookref17_Entries.T11 := by kernel_rfl
theorem logbookref17_Entries.bits11 : waitsOk logbookref17_Entries.T11.2 logbookref17_Entries.B11 = true := by kernel_rfl
set_option maxHeartbeats 8000000 in
set_option maxRecDepth 100000 in
theorem logbookref17_Entries.calls (k : Nat) (A0 : Option Addr) (c0 : Nat) (l0 : List Int) (a1 : Int) (a2 : Int) (r1 : List (S57)) (r2 : Bool) (w : World) (hr0 : Kd.C (Kd.int .u8) w A0 l0.length l0) (hc0 : l0.length ≤ c0) (h : logbookref17_Entries.f k l0 a1 a2 = some (r1, r2)) :
  Calls Try.prog 13 #[.slice A0 l0.length c0, .int .i64 a1, .int .i64 a2] w fun e w' => ∃ v0_ : Value, e = .returned (.tuple #[v0_, .bool r2]) ∧ Kd.S k57 57 w' w.heap.size (fun _ => True) v0_ r1 ∧ Below w.heap.size w w' := by
 have hu31 := Try.underlying31
 have hu57 := Try.underlying57
 have HR0 := Aside0.mk hr0
 have HC0 := Aside0.mk hc0
 clear hr0 hc0
 have HB := Aside0.mk (Below.refl w.heap.size w)
 have H : ((logbookref17_All.f k l0 a1 a2).bind fun t247 => (logbookref17_Entries.l0 k l0 a1 ([] : List (S57)) t247 0)) = some (r1, r2) := h
 clear h
 replace H := Option.bind_eq_some_iff.mp H
 obtain ⟨t247, A40, H⟩ := H
 replace H : (logbookref17_Entries.l0 k l0 a1 ([] : List (S57)) t247 0) = some (r1, r2) := H
 have A4 := Aside0.mk A40
 clear A40
 have H' := Aside0.mk H
 clear H
 go_enter Try.func13, Try.ntmps13
 go_wp2_with (first | ((with_reducible refine gate_callee (f := 7) rfl ?_); refine goesL_ (some 17) rfl rfl Try.func7 (by kernel_rfl) rfl #[.slice A0 l0.length c0, .int .i64 a1, .int .i64 a2] rfl (by (try simp only [List.map_toArray, List.map_cons, List.map_nil]); first | done | rfl | (simp only [List.length_drop, List.length_take]; rfl)) ?_; (with_reducible refine (logbookref17_All.calls k _ _ l0 a1 a2 t247 _ ?side1 ?side2 A4.out).mono ?_); (case side1 => repeat (first | exact HR0.out | (with_reducible refine Kd.C_alloc ?_ _) | (with_reducible refine Kd.C_drewN ?_ _) | (with_reducible refine Kd.C_drew ?_))); (case side2 => exact HC0.out); rintro e w5 ⟨v248, rfl, ho0, hb⟩; refine ⟨_, rfl, ?_⟩; have n0_ := Aside0.mk (Kd.S_lower ho0 (below_size (by repeat (first | (with_reducible first | exact HB.out | apply below_alloc | apply pw_below_drewN | apply below_drew1) | exact HB.out)))); have n1_ := Aside0.mk (below_step (by repeat (first | (with_reducible first | exact HB.out | apply below_alloc | apply pw_below_drewN | apply below_drew1) | exact HB.out)) hb); clear HB; have HO249 := n0_; have HB := n1_; clear n0_ n1_; (try clear hb); (try clear hb2); (try clear hk); (try clear hi); (try clear ho0)))
 go_loopg [8, 10] k (fun kq v8 v10 w' => ∃ (x8_1 : List (S57)) (x10_1 : Int), v10 = .int .i64 x10_1 ∧ Aside0 (logbookref17_Entries.l0 kq l0 a1 x8_1 t247 x10_1 = some (r1, r2)) ∧ Aside0 (kq ≤ k) ∧ Aside0 (Kd.S k57 57 w' w.heap.size (fun _ => True) v8 x8_1) ∧ Aside0 (Kd.S k33 33 w' w.heap.size (fun _ => True) v248 t247) ∧ Aside0 (Below w.heap.size w w'))
 case atStart => exact ⟨(([] : List (S57))), (0), (by first | rfl | (simp; done) | (simp [*]; done) | exact isEmpty_bne _), H', ⟨Nat.le_refl _⟩, ⟨by first | exact Kd.S_nil _ _ _ _ _ | exact Kd.N_nil _ _ _ _ _ | exact Kd.V_nil _ _ _ _ _ | exact Kd.Q_nil _ _ _ _ _ | exact Kd.R_nil _ _ _ _ _⟩, ⟨by (with_reducible repeat (first | apply Kd.S_alloc | apply Kd.S_drewN | apply Kd.S_drew)); exact HO249.out⟩, ⟨by repeat (first | (with_reducible first | exact HB.out | apply below_alloc | apply pw_below_drewN | apply below_drew1) | exact HB.out)⟩⟩
 case round =>
  clear H'
  try clear c1
  try clear p2
  obtain ⟨x8_1, x10_1, rfl, HA, HK1, HO_8, HO_9, HB⟩ := hrel
  cases gk with
  | zero => exact absurd HA.out (by simp [logbookref17_Entries.l0])
  | succ k1 =>
   have H := HA.out
   clear HA
   simp only [logbookref17_Entries.l0] at H
   by_cases c6 : x10_1 < (t247.length : Int)
   ·rw [if_pos c6] at H
    have c6b0 : decide (x10_1 < (t247.length : Int)) = true := decide_eq_true c6
    clear c6
    by_cases c7 : 0 ≤ x10_1
    ·rw [if_pos c7] at H
     have c7b0 : decide (0 ≤ x10_1) = true := decide_eq_true c7
     clear c7
     by_cases c8 : ((rd_T33 t247 x10_1).f2.f0) = 3
     ·rw [if_pos c8] at H
      have c8b0 : (((rd_T33 t247 x10_1).f2.f0) == 3) = true := beq_iff_eq.mpr c8
      have c8b1 : (((rd_T33 t247 x10_1).f2.f0) != 3) = false := bne_eq_false_iff_eq.mpr c8
      clear c8
      replace H := Option.bind_eq_some_iff.mp H
      obtain ⟨⟨t253, t256⟩, A90, H⟩ := H
      replace H : (if t256 = true then (if 0 < (((rd_T33 t247 x10_1).f2.f1).length : Int) then (if 1 < (((rd_T33 t247 x10_1).f2.f1).length : Int) then (if 2 < (((rd_T33 t247 x10_1).f2.f1).length : Int) then (if 3 < (((rd_T33 t247 x10_1).f2.f1).length : Int) then (if x8_1.length < 2513169434916 then (logbookref17_Entries.l0 k1 l0 a1 (x8_1 ++ [(⟨rd ((rd_T33 t247 x10_1).f2.f1) 0, rd ((rd_T33 t247 x10_1).f2.f1) 1, rd ((rd_T33 t247 x10_1).f2.f1) 2, rd ((rd_T33 t247 x10_1).f2.f1) 3, t253⟩ : S57)]) t247 (wrap64 (x10_1 + 1))) else (none)) else (none)) else (none)) else (none)) else (none)) else (some (([] : List (S57)), false))) = some (r1, r2) := H
      have A9 := Aside0.mk A90
      clear A90
      by_cases c10 : t256 = true
      ·subst c10
       have H1 : (if 0 < (((rd_T33 t247 x10_1).f2.f1).length : Int) then (if 1 < (((rd_T33 t247 x10_1).f2.f1).length : Int) then (if 2 < (((rd_T33 t247 x10_1).f2.f1).length : Int) then (if 3 < (((rd_T33 t247 x10_1).f2.f1).length : Int) then (if x8_1.length < 2513169434916 then (logbookref17_Entries.l0 k1 l0 a1 (x8_1 ++ [(⟨rd ((rd_T33 t247 x10_1).f2.f1) 0, rd ((rd_T33 t247 x10_1).f2.f1) 1, rd ((rd_T33 t247 x10_1).f2.f1) 2, rd ((rd_T33 t247 x10_1).f2.f1) 3, t253⟩ : S57)]) t247 (wrap64 (x10_1 + 1))) else (none)) else (none)) else (none)) else (none)) else (none)) = some (r1, r2) := by rw [if_pos rfl] at H; exact H
       clear H
       have H := H1
       clear H1
       by_cases c11 : 0 < (((rd_T33 t247 x10_1).f2.f1).length : Int)
       ·rw [if_pos c11] at H
        have c11b0 : decide (0 < (((rd_T33 t247 x10_1).f2.f1).length : Int)) = true := decide_eq_true c11
        have c11b1 : decide (0 < ((rd_T33 t247 x10_1).f2.f1).length) = true := decide_eq_true (by omega)
        clear c11
        by_cases c12 : 1 < (((rd_T33 t247 x10_1).f2.f1).length : Int)
        ·rw [if_pos c12] at H
         have c12b0 : decide (1 < (((rd_T33 t247 x10_1).f2.f1).length : Int)) = true := decide_eq_true c12
         have c12b1 : decide (1 < ((rd_T33 t247 x10_1).f2.f1).length) = true := decide_eq_true (by omega)
         clear c12
         by_cases c13 : 2 < (((rd_T33 t247 x10_1).f2.f1).length : Int)
         ·rw [if_pos c13] at H
          have c13b0 : decide (2 < (((rd_T33 t247 x10_1).f2.f1).length : Int)) = true := decide_eq_true c13
          have c13b1 : decide (2 < ((rd_T33 t247 x10_1).f2.f1).length) = true := decide_eq_true (by omega)
          clear c13
          by_cases c14 : 3 < (((rd_T33 t247 x10_1).f2.f1).length : Int)
          ·rw [if_pos c14] at H
           have c14b0 : decide (3 < (((rd_T33 t247 x10_1).f2.f1).length : Int)) = true := decide_eq_true c14
           have c14b1 : decide (3 < ((rd_T33 t247 x10_1).f2.f1).length) = true := decide_eq_true (by omega)
           clear c14
           by_cases c15 : x8_1.length < 2513169434916
           ·rw [if_pos c15] at H
            have LMc15 := Aside0.mk c15
            clear c15
            obtain ⟨y262, hy262⟩ : ∃ y_ : List (S57), y_ = (x8_1 ++ [(⟨rd ((rd_T33 t247 x10_1).f2.f1) 0, rd ((rd_T33 t247 x10_1).f2.f1) 1, rd ((rd_T33 t247 x10_1).f2.f1) 2, rd ((rd_T33 t247 x10_1).f2.f1) 3, t253⟩ : S57)]) := ⟨_, rfl⟩
            replace H : (logbookref17_Entries.l0 k1 l0 a1 y262 t247 (wrap64 (x10_1 + 1))) = some (r1, r2) := by first | (rw [hy262]; with_reducible exact H) | (have H2_ := (Option.bind_some _ _).symm.trans H; rw [hy262]; with_reducible exact H2_) | (have H2_ := (Option.bind_some _ _).symm.trans H; with_reducible exact H2_) | with_reducible exact H | (rw [hy262]; exact H) | exact H
            have Ny262 := Aside0.mk hy262
            clear hy262
            have H' := Aside0.mk H
            clear H
            obtain ⟨Ao16, co16, eo16⟩ := Kd.S_slice HO_9.out
            subst eo16
            have p250 : 0 ≤ (x10_1 : Int) := of_decide_eq_true (by first | (with_reducible assumption) | assumption)
            have q250 : x10_1 < (t247.length : Int) := of_decide_eq_true (by first | (with_reducible assumption) | assumption)
            try (obtain ⟨Az_, cz_, ez_⟩ := Kd.S_slice HO_9.out; subst ez_)
            obtain ⟨ad250, A250_3, c250_3, A250_4, c250_4, A250_5, c250_5, e250, hx250_0, hx250_1, hx250_2, hx250_3, hx250_4, hx250_5, hl250_3, hi250_3, hl250_4, hi250_4, hl250_5, hi250_5⟩ := at_T33 (Kd.S_reads' HO_9.out).2.2 x10_1 p250 q250
            cases e250
            obtain ⟨ce250, hce250, hMe250, hcc250⟩ := Kd.S_get HO_9.out z33 x10_1 p250 (by first | exact q250 | exact of_decide_eq_true (by first | (with_reducible assumption) | assumption) | (have e_ := (Kd.S_reads' HO_9.out).1; omega))
            obtain ⟨ve250_3, ve250_4, ve250_5, rfl, ge250_3, ge250_4, ge250_5⟩ := k33_openM hMe250
            have hv250_3 := hcc250 3 _ rfl
            rw [add_field _ _ 3 (by omega)] at hv250_3
            replace hv250_3 := Option.some.inj (hv250_3.symm.trans hx250_3)
            rw [hv250_3] at ge250_3
            have HL250_3 := Aside0.mk (show Kd.R (Kd.int .u64) 47 _ _ _ _ ((rd_T33 t247 x10_1).f2.f1) from ge250_3)
            clear hv250_3 ge250_3
            have hv250_4 := hcc250 4 _ rfl
            rw [add_field _ _ 4 (by omega)] at hv250_4
            replace hv250_4 := Option.some.inj (hv250_4.symm.trans hx250_4)
            rw [hv250_4] at ge250_4
            have HL250_4 := Aside0.mk (show Kd.R (Kd.int .u8) 5 _ _ _ _ ((rd_T33 t247 x10_1).f2.f2) from ge250_4)
            clear hv250_4 ge250_4
            have hv250_5 := hcc250 5 _ rfl
            rw [add_field _ _ 5 (by omega)] at hv250_5
            replace hv250_5 := Option.some.inj (hv250_5.symm.trans hx250_5)
            rw [hv250_5] at ge250_5
            have HL250_5 := Aside0.mk (show Kd.R (Kd.int .u64) 47 _ _ _ _ ((rd_T33 t247 x10_1).f2.f3) from ge250_5)
            clear hv250_5 ge250_5
            clear hcc250 hce250
            have HR250_3 := Aside0.mk hi250_3
            have HC250_3 := Aside0.mk hl250_3
            clear hi250_3 hl250_3
            have HR250_4 := Aside0.mk hi250_4
            have HC250_4 := Aside0.mk hl250_4
            clear hi250_4 hl250_4
            have HR250_5 := Aside0.mk hi250_5
            have HC250_5 := Aside0.mk hl250_5
            clear hi250_5 hl250_5
            replace p250 := eq_true p250
            replace q250 := eq_true q250
            (try (have ea_ := Option.some.inj (HS3_.symm.trans hx250_3); injection ea_ with ea_ en_ ec_; subst ea_; subst ec_; clear en_))
            (try (have ea_ := Option.some.inj (HS4_.symm.trans hx250_4); injection ea_ with ea_ en_ ec_; subst ea_; subst ec_; clear en_))
            (try (have ea_ := Option.some.inj (HS5_.symm.trans hx250_5); injection ea_ with ea_ en_ ec_; subst ea_; subst ec_; clear en_))
            try go_wp2
            have n0_ := Aside0.mk (Kd.S_drew HO_8.out)
            have n1_ := Aside0.mk (Kd.S_drew HO_9.out)
            have n2_ := Aside0.mk (Kd.R_drew HL250_3.out)
            have n3_ := Aside0.mk (Kd.R_drew HL250_4.out)
            have n4_ := Aside0.mk (Kd.R_drew HL250_5.out)
            have n5_ := Aside0.mk (Kd.C_drew HR250_3.out)
            have n6_ := Aside0.mk (Kd.C_drew HR250_4.out)
            have n7_ := Aside0.mk (Kd.C_drew HR250_5.out)
            have n8_ := Aside0.mk (below_drew1 HB.out)
            clear HO_8
            clear HO_9
            clear HL250_3
            clear HL250_4
            clear HL250_5
            clear HR250_3
            clear HR250_4
            clear HR250_5
            clear HB
            have HO_8 := n0_
            have HO_9 := n1_
            have HL250_3 := n2_
            have HL250_4 := n3_
            have HL250_5 := n4_
            have HR250_3 := n5_
            have HR250_4 := n6_
            have HR250_5 := n7_
            have HB := n8_
            clear n0_ n1_ n2_ n3_ n4_ n5_ n6_ n7_ n8_
            have p251 : 0 ≤ (x10_1 : Int) := of_decide_eq_true (by first | (with_reducible assumption) | assumption)
            have q251 : x10_1 < (t247.length : Int) := of_decide_eq_true (by first | (with_reducible assumption) | assumption)
            try (obtain ⟨Az_, cz_, ez_⟩ := Kd.S_slice HO_9.out; subst ez_)
            obtain ⟨ad251, A251_3, c251_3, A251_4, c251_4, A251_5, c251_5, e251, hx251_0, hx251_1, hx251_2, hx251_3, hx251_4, hx251_5, hl251_3, hi251_3, hl251_4, hi251_4, hl251_5, hi251_5⟩ := at_T33 (Kd.S_reads' HO_9.out).2.2 x10_1 p251 q251
            obtain rfl : ad250 = ad251 := (by injection e251)
            obtain ⟨ce251, hce251, hMe251, hcc251⟩ := Kd.S_get HO_9.out z33 x10_1 p251 (by first | exact q251 | exact of_decide_eq_true (by first | (with_reducible assumption) | assumption) | (have e_ := (Kd.S_reads' HO_9.out).1; omega))
            obtain ⟨ve251_3, ve251_4, ve251_5, rfl, ge251_3, ge251_4, ge251_5⟩ := k33_openM hMe251
            have hv251_3 := hcc251 3 _ rfl
            rw [add_field _ _ 3 (by omega)] at hv251_3
            replace hv251_3 := Option.some.inj (hv251_3.symm.trans hx251_3)
            rw [hv251_3] at ge251_3
            have HL251_3 := Aside0.mk (show Kd.R (Kd.int .u64) 47 _ _ _ _ ((rd_T33 t247 x10_1).f2.f1) from ge251_3)
            clear hv251_3 ge251_3
            have hv251_4 := hcc251 4 _ rfl
            rw [add_field _ _ 4 (by omega)] at hv251_4
            replace hv251_4 := Option.some.inj (hv251_4.symm.trans hx251_4)
            rw [hv251_4] at ge251_4
            have HL251_4 := Aside0.mk (show Kd.R (Kd.int .u8) 5 _ _ _ _ ((rd_T33 t247 x10_1).f2.f2) from ge251_4)
            clear hv251_4 ge251_4
            have hv251_5 := hcc251 5 _ rfl
            rw [add_field _ _ 5 (by omega)] at hv251_5
            replace hv251_5 := Option.some.inj (hv251_5.symm.trans hx251_5)
            rw [hv251_5] at ge251_5
            have HL251_5 := Aside0.mk (show Kd.R (Kd.int .u64) 47 _ _ _ _ ((rd_T33 t247 x10_1).f2.f3) from ge251_5)
            clear hv251_5 ge251_5
            clear hcc251 hce251
            have HR251_3 := Aside0.mk hi251_3
            have HC251_3 := Aside0.mk hl251_3
            clear hi251_3 hl251_3
            have HR251_4 := Aside0.mk hi251_4
            have HC251_4 := Aside0.mk hl251_4
            clear hi251_4 hl251_4
            have HR251_5 := Aside0.mk hi251_5
            have HC251_5 := Aside0.mk hl251_5
            clear hi251_5 hl251_5
            replace p251 := eq_true p251
            replace q251 := eq_true q251
            (try (have ea_ := Option.some.inj (HS3_.symm.trans hx251_3); injection ea_ with ea_ en_ ec_; subst ea_; subst ec_; clear en_))
            (try (have ea_ := Option.some.inj (HS4_.symm.trans hx251_4); injection ea_ with ea_ en_ ec_; subst ea_; subst ec_; clear en_))
            (try (have ea_ := Option.some.inj (HS5_.symm.trans hx251_5); injection ea_ with ea_ en_ ec_; subst ea_; subst ec_; clear en_))
            have p252 : 0 ≤ (x10_1 : Int) := of_decide_eq_true (by first | (with_reducible assumption) | assumption)
            have q252 : x10_1 < (t247.length : Int) := of_decide_eq_true (by first | (with_reducible assumption) | assumption)
            try (obtain ⟨Az_, cz_, ez_⟩ := Kd.S_slice HO_9.out; subst ez_)
            obtain ⟨ad252, A252_3, c252_3, A252_4, c252_4, A252_5, c252_5, e252, hx252_0, hx252_1, hx252_2, hx252_3, hx252_4, hx252_5, hl252_3, hi252_3, hl252_4, hi252_4, hl252_5, hi252_5⟩ := at_T33 (Kd.S_reads' HO_9.out).2.2 x10_1 p252 q252
            obtain rfl : ad250 = ad252 := (by injection e252)
            obtain ⟨ce252, hce252, hMe252, hcc252⟩ := Kd.S_get HO_9.out z33 x10_1 p252 (by first | exact q252 | exact of_decide_eq_true (by first | (with_reducible assumption) | assumption) | (have e_ := (Kd.S_reads' HO_9.out).1; omega))
            obtain ⟨ve252_3, ve252_4, ve252_5, rfl, ge252_3, ge252_4, ge252_5⟩ := k33_openM hMe252
            have hv252_3 := hcc252 3 _ rfl
            rw [add_field _ _ 3 (by omega)] at hv252_3
            replace hv252_3 := Option.some.inj (hv252_3.symm.trans hx252_3)
            rw [hv252_3] at ge252_3
            have HL252_3 := Aside0.mk (show Kd.R (Kd.int .u64) 47 _ _ _ _ ((rd_T33 t247 x10_1).f2.f1) from ge252_3)
            clear hv252_3 ge252_3
            have hv252_4 := hcc252 4 _ rfl
            rw [add_field _ _ 4 (by omega)] at hv252_4
            replace hv252_4 := Option.some.inj (hv252_4.symm.trans hx252_4)
            rw [hv252_4] at ge252_4
            have HL252_4 := Aside0.mk (show Kd.R (Kd.int .u8) 5 _ _ _ _ ((rd_T33 t247 x10_1).f2.f2) from ge252_4)
            clear hv252_4 ge252_4
            have hv252_5 := hcc252 5 _ rfl
            rw [add_field _ _ 5 (by omega)] at hv252_5
            replace hv252_5 := Option.some.inj (hv252_5.symm.trans hx252_5)
            rw [hv252_5] at ge252_5
            have HL252_5 := Aside0.mk (show Kd.R (Kd.int .u64) 47 _ _ _ _ ((rd_T33 t247 x10_1).f2.f3) from ge252_5)
            clear hv252_5 ge252_5
            clear hcc252 hce252
            have HR252_3 := Aside0.mk hi252_3
            have HC252_3 := Aside0.mk hl252_3
            clear hi252_3 hl252_3
            have HR252_4 := Aside0.mk hi252_4
            have HC252_4 := Aside0.mk hl252_4
            clear hi252_4 hl252_4
            have HR252_5 := Aside0.mk hi252_5
            have HC252_5 := Aside0.mk hl252_5
            clear hi252_5 hl252_5
            replace p252 := eq_true p252
            replace q252 := eq_true q252
            (try (have ea_ := Option.some.inj (HS3_.symm.trans hx252_3); injection ea_ with ea_ en_ ec_; subst ea_; subst ec_; clear en_))
            (try (have ea_ := Option.some.inj (HS4_.symm.trans hx252_4); injection ea_ with ea_ en_ ec_; subst ea_; subst ec_; clear en_))
            (try (have ea_ := Option.some.inj (HS5_.symm.trans hx252_5); injection ea_ with ea_ en_ ec_; subst ea_; subst ec_; clear en_))
            have ea_ := Option.some.inj (hx251_3.symm.trans hx252_3)
            injection ea_ with ea_ en_ ec_
            subst ea_
            subst ec_
            clear en_
            have ea_ := Option.some.inj (hx251_4.symm.trans hx252_4)
            injection ea_ with ea_ en_ ec_
            subst ea_
            subst ec_
            clear en_
            have ea_ := Option.some.inj (hx251_5.symm.trans hx252_5)
            injection ea_ with ea_ en_ ec_
            subst ea_
            subst ec_
            clear en_
            refine start_ (n := 18) (S := fun w' => w'.cell? (ad250.add ((x10_1).toNat * 6)) = some (.int .i64 ((rd_T33 t247 x10_1).f0)) ∧ w'.cell? ⟨(ad250.add ((x10_1).toNat * 6)).block, (ad250.add ((x10_1).toNat * 6)).off + 1, none⟩ = some (.int .i64 ((rd_T33 t247 x10_1).f1)) ∧ w'.cell? ⟨(ad250.add ((x10_1).toNat * 6)).block, (ad250.add ((x10_1).toNat * 6)).off + 2, none⟩ = some (.int .i64 ((rd_T33 t247 x10_1).f2.f0)) ∧ w'.cell? ⟨(ad250.add ((x10_1).toNat * 6)).block, (ad250.add ((x10_1).toNat * 6)).off + 3, none⟩ = some (.slice A251_3 ((rd_T33 t247 x10_1).f2.f1).length c251_3) ∧ w'.cell? ⟨(ad250.add ((x10_1).toNat * 6)).block, (ad250.add ((x10_1).toNat * 6)).off + 4, none⟩ = some (.slice A251_4 ((rd_T33 t247 x10_1).f2.f2).length c251_4) ∧ w'.cell? ⟨(ad250.add ((x10_1).toNat * 6)).block, (ad250.add ((x10_1).toNat * 6)).off + 5, none⟩ = some (.slice A251_5 ((rd_T33 t247 x10_1).f2.f3).length c251_5) ∧ w'.cell? (ad250.add ((x10_1).toNat * 6)) = some (.int .i64 ((rd_T33 t247 x10_1).f0)) ∧ w'.cell? ⟨(ad250.add ((x10_1).toNat * 6)).block, (ad250.add ((x10_1).toNat * 6)).off + 1, none⟩ = some (.int .i64 ((rd_T33 t247 x10_1).f1)) ∧ w'.cell? ⟨(ad250.add ((x10_1).toNat * 6)).block, (ad250.add ((x10_1).toNat * 6)).off + 2, none⟩ = some (.int .i64 ((rd_T33 t247 x10_1).f2.f0)) ∧ w'.cell? ⟨(ad250.add ((x10_1).toNat * 6)).block, (ad250.add ((x10_1).toNat * 6)).off + 3, none⟩ = some (.slice A251_3 ((rd_T33 t247 x10_1).f2.f1).length c251_3) ∧ w'.cell? ⟨(ad250.add ((x10_1).toNat * 6)).block, (ad250.add ((x10_1).toNat * 6)).off + 4, none⟩ = some (.slice A251_4 ((rd_T33 t247 x10_1).f2.f2).length c251_4) ∧ w'.cell? ⟨(ad250.add ((x10_1).toNat * 6)).block, (ad250.add ((x10_1).toNat * 6)).off + 5, none⟩ = some (.slice A251_5 ((rd_T33 t247 x10_1).f2.f3).length c251_5)) (ds := []) #[false, false, false, false, false, false, false, false, false, false, false, false, false, false, false, false, false, false] (by kernel_rfl) rfl rfl ⟨hx251_0, hx251_1, hx251_2, hx251_3, hx251_4, hx251_5, hx252_0, hx252_1, hx252_2, hx252_3, hx252_4, hx252_5⟩ (fun hHeld => ?_); refine with_tabW logbookref17_Entries.tab7 logbookref17_Entries.bits7 (fun HT_ HW_ => ?_)
            generalize wr.drew = w17 at HO_8 HO_9 HL250_3 HL250_4 HL250_5 HR250_3 HR250_4 HR250_5 HB HL251_3 HL251_4 HL251_5 HL252_3 HL252_4 HL252_5 HR251_3 HR251_4 HR251_5 HR252_3 HR252_4 HR252_5 hx251_0 hx251_1 hx251_2 hx251_3 hx251_4 hx251_5 hx252_0 hx252_1 hx252_2 hx252_3 hx252_4 hx252_5 hHeld ⊢
            refine pure_ (i := 0) (N := some 32) (v := ?_) (a' := ?_) #[true, false, false, false, false, false, false, false, false, false, false, false, false, false, false, false, false, false] rfl rfl (any_of HT_.out (by kernel_rfl)) (fun _ _ _ h => h) (Or.inl ⟨by rfl, ?_⟩) ?_ ?_
            rotate_left
            ·intro w'
             go_simp
             with_reducible rfl
            rotate_left
            ·simp only [Act.put, List.setIfInBounds_toArray, List.set_cons_zero, List.set_cons_succ, i64_w, i32_w]
             rfl
            refine pure_ (i := 1) (N := some 33) (v := ?_) (a' := ?_) #[true, true, false, false, false, false, false, false, false, false, false, false, false, false, false, false, false, false] rfl rfl (any_of HT_.out (by kernel_rfl)) (fun _ _ _ h => h) (Or.inl ⟨by rfl, ?_⟩) ?_ ?_
            rotate_left
            ·intro w'
             go_simp
             with_reducible rfl
            rotate_left
            ·simp only [Act.put, List.setIfInBounds_toArray, List.set_cons_zero, List.set_cons_succ, i64_w, i32_w]
             rfl
            refine pure_ (i := 2) (N := some 34) (v := ?_) (a' := ?_) #[true, true, true, false, false, false, false, false, false, false, false, false, false, false, false, false, false, false] rfl rfl (any_of HT_.out (by kernel_rfl)) (fun _ _ _ h => h) (Or.inl ⟨by rfl, ?_⟩) ?_ ?_
            rotate_left
            ·intro w'
             go_simp
             with_reducible rfl
            rotate_left
            ·simp only [Act.put, List.setIfInBounds_toArray, List.set_cons_zero, List.set_cons_succ, i64_w, i32_w]
             rfl
            refine pure_ (i := 3) (N := some 35) (v := ?_) (a' := ?_) #[true, true, true, true, false, false, false, false, false, false, false, false, false, false, false, false, false, false] rfl rfl (any_of HT_.out (by kernel_rfl)) (fun _ _ _ h => h) (Or.inl ⟨by rfl, ?_⟩) ?_ ?_
            rotate_left
            ·intro w'
             go_simp
             with_reducible rfl
            rotate_left
            ·simp only [Act.put, List.setIfInBounds_toArray, List.set_cons_zero, List.set_cons_succ, i64_w, i32_w]
             rfl
            refine pure_ (i := 4) (N := some 36) (v := ?_) (a' := ?_) #[true, true, true, true, true, false, false, false, false, false, false, false, false, false, false, false, false, false] rfl rfl (any_of HT_.out (by kernel_rfl)) (fun _ _ _ h => h) (Or.inl ⟨by rfl, ?_⟩) ?_ ?_
            rotate_left
            ·intro w'
             go_simp
             with_reducible rfl
            rotate_left
            ·simp only [Act.put, List.setIfInBounds_toArray, List.set_cons_zero, List.set_cons_succ, i64_w, i32_w]
             rfl
            refine pure_ (i := 5) (N := some 37) (v := ?_) (a' := ?_) #[true, true, true, true, true, true, false, false, false, false, false, false, false, false, false, false, false, false] rfl rfl (any_of HT_.out (by kernel_rfl)) (fun _ _ _ h => h) (Or.inl ⟨by rfl, ?_⟩) ?_ ?_
            rotate_left
            ·intro w'
             go_simp
             with_reducible rfl
            rotate_left
            ·simp only [Act.put, List.setIfInBounds_toArray, List.set_cons_zero, List.set_cons_succ, i64_w, i32_w]
             rfl
            refine pure_ (i := 7) (N := some 39) (v := ?_) (a' := ?_) #[true, true, true, true, true, true, false, true, false, false, false, false, false, false, false, false, false, false] rfl rfl (any_of HT_.out (by kernel_rfl)) (fun _ _ _ h => h) (Or.inl ⟨by rfl, ?_⟩) ?_ ?_
            rotate_left
            ·intro w'
             go_simp
             with_reducible rfl
            rotate_left
            ·simp only [Act.put, List.setIfInBounds_toArray, List.set_cons_zero, List.set_cons_succ, i64_w, i32_w]
             rfl
            refine pure_ (i := 8) (N := some 40) (v := ?_) (a' := ?_) #[true, true, true, true, true, true, false, true, true, false, false, false, false, false, false, false, false, false] rfl rfl (any_of HT_.out (by kernel_rfl)) (fun _ _ _ h => h) (Or.inl ⟨by rfl, ?_⟩) ?_ ?_
            rotate_left
            ·intro w'
             go_simp
             with_reducible rfl
            rotate_left
            ·simp only [Act.put, List.setIfInBounds_toArray, List.set_cons_zero, List.set_cons_succ, i64_w, i32_w]
             rfl
            refine pure_ (i := 9) (N := some 41) (v := ?_) (a' := ?_) #[true, true, true, true, true, true, false, true, true, true, false, false, false, false, false, false, false, false] rfl rfl (any_of HT_.out (by kernel_rfl)) (fun _ _ _ h => h) (Or.inl ⟨by rfl, ?_⟩) ?_ ?_
            rotate_left
            ·intro w'
             go_simp
             with_reducible rfl
            rotate_left
            ·simp only [Act.put, List.setIfInBounds_toArray, List.set_cons_zero, List.set_cons_succ, i64_w, i32_w]
             rfl
            refine pure_ (i := 10) (N := some 42) (v := ?_) (a' := ?_) #[true, true, true, true, true, true, false, true, true, true, true, false, false, false, false, false, false, false] rfl rfl (any_of HT_.out (by kernel_rfl)) (fun _ _ _ h => h) (Or.inl ⟨by rfl, ?_⟩) ?_ ?_
            rotate_left
            ·intro w'
             go_simp
             with_reducible rfl
            rotate_left
            ·simp only [Act.put, List.setIfInBounds_toArray, List.set_cons_zero, List.set_cons_succ, i64_w, i32_w]
             rfl
            refine take_ (i := 6) (N := some 38) (v := ?_) (a' := ?_) #[true, true, true, true, true, true, true, true, true, true, true, false, false, false, false, false, false, false] rfl rfl (take_ofW HT_.out HW_.out (by kernel_rfl)) (fun _ _ _ h => h) (Or.inl ⟨by rfl, ?_⟩) hHeld ?_ ?_
            rotate_left
            ·rintro w' ⟨s0, s1, s2, s3, s4, s5, s6, s7, s8, s9, s10, s11⟩
             go_simp
             with_reducible rfl
            rotate_left
            ·simp only [Act.put, List.setIfInBounds_toArray, List.set_cons_zero, List.set_cons_succ, i64_w, i32_w]
             rfl
            refine take_ (i := 11) (N := some 43) (v := ?_) (a' := ?_) #[true, true, true, true, true, true, true, true, true, true, true, true, false, false, false, false, false, false] rfl rfl (take_ofW HT_.out HW_.out (by kernel_rfl)) (fun _ _ _ h => h) (Or.inl ⟨by rfl, ?_⟩) hHeld ?_ ?_
            rotate_left
            ·rintro w' ⟨s0, s1, s2, s3, s4, s5, s6, s7, s8, s9, s10, s11⟩
             go_simp
             with_reducible rfl
            rotate_left
            ·simp only [Act.put, List.setIfInBounds_toArray, List.set_cons_zero, List.set_cons_succ, i64_w, i32_w]
             rfl
            refine one_ (i := 12) (N := some 44) #[true, true, true, true, true, true, true, true, true, true, true, true, true, false, false, false, false, false] rfl rfl (one_of HT_.out (by kernel_rfl)) (by decide) (fun K hK => ?_)
            refine goes_ Try.func15 (by kernel_rfl) rfl #[.slice A0 l0.length c0, .int .i64 a1, .int .i64 ((rd_T33 t247 x10_1).f0), .agg #[.int .i64 ((rd_T33 t247 x10_1).f2.f0), .slice A251_3 ((rd_T33 t247 x10_1).f2.f1).length c251_3, .slice A251_4 ((rd_T33 t247 x10_1).f2.f2).length c251_4, .slice A251_5 ((rd_T33 t247 x10_1).f2.f3).length c251_5]] (by rfl) rfl rfl (by (try simp only [List.map_toArray, List.map_cons, List.map_nil]); first | done | rfl | (simp only [List.length_drop, List.length_take]; rfl)) ?_
            with_reducible refine (logbookref17_Items.calls k1 _ _ l0 a1 ((rd_T33 t247 x10_1).f0) ((rd_T33 t247 x10_1).f2.f0) _ _ ((rd_T33 t247 x10_1).f2.f1) _ _ ((rd_T33 t247 x10_1).f2.f2) _ _ ((rd_T33 t247 x10_1).f2.f3) t253 true _ ?side1 ?side2 ?side3 ?side4 ?side5 ?side6 ?side7 ?side8 A9.out).mono ?_
            (case side1 => repeat (first | exact (Kd.C_below HR0.out HB.out) | (with_reducible refine Kd.C_alloc ?_ _) | (with_reducible refine Kd.C_drewN ?_ _) | (with_reducible refine Kd.C_drew ?_)))
            (case side2 => exact HC0.out)
            (case side3 => repeat (first | exact (by repeat (first | (with_reducible exact HR252_3.out) | (with_reducible refine Kd.C_alloc ?_ _) | (with_reducible refine Kd.C_drewN ?_ _) | (with_reducible refine Kd.C_drew ?_) | exact HR252_3.out)) | (with_reducible refine Kd.C_alloc ?_ _) | (with_reducible refine Kd.C_drewN ?_ _) | (with_reducible refine Kd.C_drew ?_)))
            (case side4 => exact HC252_3.out)
            (case side5 => repeat (first | exact (by repeat (first | (with_reducible exact HR252_4.out) | (with_reducible refine Kd.C_alloc ?_ _) | (with_reducible refine Kd.C_drewN ?_ _) | (with_reducible refine Kd.C_drew ?_) | exact HR252_4.out)) | (with_reducible refine Kd.C_alloc ?_ _) | (with_reducible refine Kd.C_drewN ?_ _) | (with_reducible refine Kd.C_drew ?_)))
            (case side6 => exact HC252_4.out)
            (case side7 => repeat (first | exact (by repeat (first | (with_reducible exact HR252_5.out) | (with_reducible refine Kd.C_alloc ?_ _) | (with_reducible refine Kd.C_drewN ?_ _) | (with_reducible refine Kd.C_drew ?_) | exact HR252_5.out)) | (with_reducible refine Kd.C_alloc ?_ _) | (with_reducible refine Kd.C_drewN ?_ _) | (with_reducible refine Kd.C_drew ?_)))
            (case side8 => exact HC252_5.out)
            rintro e w18 ⟨v254, rfl, ho0, hb⟩
            have HS0_ := (hb.cell (World.block_lt_of_cell? _ _ (hHeld.1))).trans (hHeld.1)
            have HS1_ := (hb.cell (World.block_lt_of_cell? _ _ (hHeld.2.1))).trans (hHeld.2.1)
            have HS2_ := (hb.cell (World.block_lt_of_cell? _ _ (hHeld.2.2.1))).trans (hHeld.2.2.1)
            have HS3_ := (hb.cell (World.block_lt_of_cell? _ _ (hHeld.2.2.2.1))).trans (hHeld.2.2.2.1)
            have HS4_ := (hb.cell (World.block_lt_of_cell? _ _ (hHeld.2.2.2.2.1))).trans (hHeld.2.2.2.2.1)
            have HS5_ := (hb.cell (World.block_lt_of_cell? _ _ (hHeld.2.2.2.2.2.1))).trans (hHeld.2.2.2.2.2.1)
            have HS6_ := (hb.cell (World.block_lt_of_cell? _ _ (hHeld.2.2.2.2.2.2.1))).trans (hHeld.2.2.2.2.2.2.1)
            have HS7_ := (hb.cell (World.block_lt_of_cell? _ _ (hHeld.2.2.2.2.2.2.2.1))).trans (hHeld.2.2.2.2.2.2.2.1)
            have HS8_ := (hb.cell (World.block_lt_of_cell? _ _ (hHeld.2.2.2.2.2.2.2.2.1))).trans (hHeld.2.2.2.2.2.2.2.2.1)
            have HS9_ := (hb.cell (World.block_lt_of_cell? _ _ (hHeld.2.2.2.2.2.2.2.2.2.1))).trans (hHeld.2.2.2.2.2.2.2.2.2.1)
            have HS10_ := (hb.cell (World.block_lt_of_cell? _ _ (hHeld.2.2.2.2.2.2.2.2.2.2.1))).trans (hHeld.2.2.2.2.2.2.2.2.2.2.1)
            have HS11_ := (hb.cell (World.block_lt_of_cell? _ _ (hHeld.2.2.2.2.2.2.2.2.2.2.2))).trans (hHeld.2.2.2.2.2.2.2.2.2.2.2)
            refine ⟨_, rfl, ?_⟩
            have n0_ := Aside0.mk (Kd.S_elder' (by (with_reducible repeat (first | apply Kd.S_alloc | apply Kd.S_drewN | apply Kd.S_drew)); exact HO_8.out) (Kd.R_base ho0) hb)
            have n1_ := Aside0.mk (Kd.S_below (by (with_reducible repeat (first | apply Kd.S_alloc | apply Kd.S_drewN | apply Kd.S_drew)); exact HO_9.out) hb)
            have n2_ := Aside0.mk (Kd.R_below (by (with_reducible repeat (first | apply Kd.R_alloc | apply Kd.R_drewN | apply Kd.R_drew)); exact HL250_3.out) hb)
            have n3_ := Aside0.mk (Kd.R_below (by (with_reducible repeat (first | apply Kd.R_alloc | apply Kd.R_drewN | apply Kd.R_drew)); exact HL250_4.out) hb)
            have n4_ := Aside0.mk (Kd.R_below (by (with_reducible repeat (first | apply Kd.R_alloc | apply Kd.R_drewN | apply Kd.R_drew)); exact HL250_5.out) hb)
            have n5_ := Aside0.mk (Kd.R_below (by (with_reducible repeat (first | apply Kd.R_alloc | apply Kd.R_drewN | apply Kd.R_drew)); exact HL251_3.out) hb)
            have n6_ := Aside0.mk (Kd.R_below (by (with_reducible repeat (first | apply Kd.R_alloc | apply Kd.R_drewN | apply Kd.R_drew)); exact HL251_4.out) hb)
            have n7_ := Aside0.mk (Kd.R_below (by (with_reducible repeat (first | apply Kd.R_alloc | apply Kd.R_drewN | apply Kd.R_drew)); exact HL251_5.out) hb)
            have n8_ := Aside0.mk (Kd.R_below (by (with_reducible repeat (first | apply Kd.R_alloc | apply Kd.R_drewN | apply Kd.R_drew)); exact HL252_3.out) hb)
            have n9_ := Aside0.mk (Kd.R_below (by (with_reducible repeat (first | apply Kd.R_alloc | apply Kd.R_drewN | apply Kd.R_drew)); exact HL252_4.out) hb)
            have n10_ := Aside0.mk (Kd.R_below (by (with_reducible repeat (first | apply Kd.R_alloc | apply Kd.R_drewN | apply Kd.R_drew)); exact HL252_5.out) hb)
            have n11_ := Aside0.mk (Kd.R_lower ho0 (below_size (by repeat (first | (with_reducible first | exact HB.out | apply below_alloc | apply pw_below_drewN | apply below_drew1) | exact HB.out))))
            have n12_ := Aside0.mk (Kd.C_below (by repeat (first | (with_reducible exact HR250_3.out) | (with_reducible refine Kd.C_alloc ?_ _) | (with_reducible refine Kd.C_drewN ?_ _) | (with_reducible refine Kd.C_drew ?_) | exact HR250_3.out)) hb)
            have n13_ := Aside0.mk (Kd.C_below (by repeat (first | (with_reducible exact HR250_4.out) | (with_reducible refine Kd.C_alloc ?_ _) | (with_reducible refine Kd.C_drewN ?_ _) | (with_reducible refine Kd.C_drew ?_) | exact HR250_4.out)) hb)
            have n14_ := Aside0.mk (Kd.C_below (by repeat (first | (with_reducible exact HR250_5.out) | (with_reducible refine Kd.C_alloc ?_ _) | (with_reducible refine Kd.C_drewN ?_ _) | (with_reducible refine Kd.C_drew ?_) | exact HR250_5.out)) hb)
            have n15_ := Aside0.mk (Kd.C_below (by repeat (first | (with_reducible exact HR251_3.out) | (with_reducible refine Kd.C_alloc ?_ _) | (with_reducible refine Kd.C_drewN ?_ _) | (with_reducible refine Kd.C_drew ?_) | exact HR251_3.out)) hb)
            have n16_ := Aside0.mk (Kd.C_below (by repeat (first | (with_reducible exact HR251_4.out) | (with_reducible refine Kd.C_alloc ?_ _) | (with_reducible refine Kd.C_drewN ?_ _) | (with_reducible refine Kd.C_drew ?_) | exact HR251_4.out)) hb)
            have n17_ := Aside0.mk (Kd.C_below (by repeat (first | (with_reducible exact HR251_5.out) | (with_reducible refine Kd.C_alloc ?_ _) | (with_reducible refine Kd.C_drewN ?_ _) | (with_reducible refine Kd.C_drew ?_) | exact HR251_5.out)) hb)
            have n18_ := Aside0.mk (Kd.C_below (by repeat (first | (with_reducible exact HR252_3.out) | (with_reducible refine Kd.C_alloc ?_ _) | (with_reducible refine Kd.C_drewN ?_ _) | (with_reducible refine Kd.C_drew ?_) | exact HR252_3.out)) hb)
            have n19_ := Aside0.mk (Kd.C_below (by repeat (first | (with_reducible exact HR252_4.out) | (with_reducible refine Kd.C_alloc ?_ _) | (with_reducible refine Kd.C_drewN ?_ _) | (with_reducible refine Kd.C_drew ?_) | exact HR252_4.out)) hb)
            have n20_ := Aside0.mk (Kd.C_below (by repeat (first | (with_reducible exact HR252_5.out) | (with_reducible refine Kd.C_alloc ?_ _) | (with_reducible refine Kd.C_drewN ?_ _) | (with_reducible refine Kd.C_drew ?_) | exact HR252_5.out)) hb)
            have n21_ := Aside0.mk (below_step (by repeat (first | (with_reducible first | exact HB.out | apply below_alloc | apply pw_below_drewN | apply below_drew1) | exact HB.out)) hb)
            clear HO_8
            clear HO_9
            clear HL250_3
            clear HL250_4
            clear HL250_5
            clear HL251_3
            clear HL251_4
            clear HL251_5
            clear HL252_3
            clear HL252_4
            clear HL252_5
            clear HR250_3
            clear HR250_4
            clear HR250_5
            clear HR251_3
            clear HR251_4
            clear HR251_5
            clear HR252_3
            clear HR252_4
            clear HR252_5
            clear HB
            have HO_8 := n0_
            have HO_9 := n1_
            have HL250_3 := n2_
            have HL250_4 := n3_
            have HL250_5 := n4_
            have HL251_3 := n5_
            have HL251_4 := n6_
            have HL251_5 := n7_
            have HL252_3 := n8_
            have HL252_4 := n9_
            have HL252_5 := n10_
            have HO255 := n11_
            have HR250_3 := n12_
            have HR250_4 := n13_
            have HR250_5 := n14_
            have HR251_3 := n15_
            have HR251_4 := n16_
            have HR251_5 := n17_
            have HR252_3 := n18_
            have HR252_4 := n19_
            have HR252_5 := n20_
            have HB := n21_
            clear n0_ n1_ n2_ n3_ n4_ n5_ n6_ n7_ n8_ n9_ n10_ n11_ n12_ n13_ n14_ n15_ n16_ n17_ n18_ n19_ n20_ n21_
            (try clear hb)
            (try clear hb2)
            (try clear hk)
            (try clear hi)
            (try clear ho0)
            refine hK.out _ _ ⟨HS0_, HS1_, HS2_, HS3_, HS4_, HS5_, HS6_, HS7_, HS8_, HS9_, HS10_, HS11_⟩ (fun hHeld => ?_)
            clear hK K
            refine norm_ (a' := ?_) ?_ ?_
            rotate_left
            ·show Act.put _ (some 44) _ = _
             simp only [Act.put, List.setIfInBounds_toArray, List.set_cons_zero, List.set_cons_succ, i64_w, i32_w]
             rfl
            refine pure_ (i := 13) (N := some 31) (v := ?_) (a' := ?_) #[true, true, true, true, true, true, true, true, true, true, true, true, true, true, false, false, false, false] rfl rfl (any_of HT_.out (by kernel_rfl)) (fun _ _ _ h => h) (Or.inl ⟨by rfl, ?_⟩) ?_ ?_
            rotate_left
            ·intro w'
             go_simp
             with_reducible rfl
            rotate_left
            ·simp only [Act.put, List.setIfInBounds_toArray, List.set_cons_zero, List.set_cons_succ, i64_w, i32_w]
             rfl
            refine pure_ (i := 14) (N := some 45) (v := ?_) (a' := ?_) #[true, true, true, true, true, true, true, true, true, true, true, true, true, true, true, false, false, false] rfl rfl (any_of HT_.out (by kernel_rfl)) (fun _ _ _ h => h) (Or.inl ⟨by rfl, ?_⟩) ?_ ?_
            rotate_left
            ·intro w'
             go_simp
             with_reducible rfl
            rotate_left
            ·simp only [Act.put, List.setIfInBounds_toArray, List.set_cons_zero, List.set_cons_succ, i64_w, i32_w]
             rfl
            refine pure_ (i := 15) (N := some 46) (v := ?_) (a' := ?_) #[true, true, true, true, true, true, true, true, true, true, true, true, true, true, true, true, false, false] rfl rfl (any_of HT_.out (by kernel_rfl)) (fun _ _ _ h => h) (Or.inl ⟨by rfl, ?_⟩) ?_ ?_
            rotate_left
            ·intro w'
             go_simp
             with_reducible rfl
            rotate_left
            ·simp only [Act.put, List.setIfInBounds_toArray, List.set_cons_zero, List.set_cons_succ, i64_w, i32_w]
             rfl
            refine pure_ (i := 16) (N := some 11) (v := ?_) (a' := ?_) #[true, true, true, true, true, true, true, true, true, true, true, true, true, true, true, true, true, false] rfl rfl (any_of HT_.out (by kernel_rfl)) (fun _ _ _ h => h) (Or.inl ⟨by rfl, ?_⟩) ?_ ?_
            rotate_left
            ·intro w'
             go_simp
             with_reducible rfl
            rotate_left
            ·simp only [Act.put, List.setIfInBounds_toArray, List.set_cons_zero, List.set_cons_succ, i64_w, i32_w]
             rfl
            refine pure_ (i := 17) (N := some 12) (v := ?_) (a' := ?_) #[true, true, true, true, true, true, true, true, true, true, true, true, true, true, true, true, true, true] rfl rfl (any_of HT_.out (by kernel_rfl)) (fun _ _ _ h => h) (Or.inl ⟨by rfl, ?_⟩) ?_ ?_
            rotate_left
            ·intro w'
             go_simp
             with_reducible rfl
            rotate_left
            ·simp only [Act.put, List.setIfInBounds_toArray, List.set_cons_zero, List.set_cons_succ, i64_w, i32_w]
             rfl
            refine done_ (done_of HT_.out (by kernel_rfl)) ?_
            have p257 : 0 ≤ (x10_1 : Int) := of_decide_eq_true (by first | (with_reducible assumption) | assumption)
            have q257 : x10_1 < (t247.length : Int) := of_decide_eq_true (by first | (with_reducible assumption) | assumption)
            try (obtain ⟨Az_, cz_, ez_⟩ := Kd.S_slice HO_9.out; subst ez_)
            obtain ⟨ad257, A257_3, c257_3, A257_4, c257_4, A257_5, c257_5, e257, hx257_0, hx257_1, hx257_2, hx257_3, hx257_4, hx257_5, hl257_3, hi257_3, hl257_4, hi257_4, hl257_5, hi257_5⟩ := at_T33 (Kd.S_reads' HO_9.out).2.2 x10_1 p257 q257
            obtain rfl : ad250 = ad257 := (by injection e257)
            obtain ⟨ce257, hce257, hMe257, hcc257⟩ := Kd.S_get HO_9.out z33 x10_1 p257 (by first | exact q257 | exact of_decide_eq_true (by first | (with_reducible assumption) | assumption) | (have e_ := (Kd.S_reads' HO_9.out).1; omega))
            obtain ⟨ve257_3, ve257_4, ve257_5, rfl, ge257_3, ge257_4, ge257_5⟩ := k33_openM hMe257
            have hv257_3 := hcc257 3 _ rfl
            rw [add_field _ _ 3 (by omega)] at hv257_3
            replace hv257_3 := Option.some.inj (hv257_3.symm.trans hx257_3)
            rw [hv257_3] at ge257_3
            have HL257_3 := Aside0.mk (show Kd.R (Kd.int .u64) 47 _ _ _ _ ((rd_T33 t247 x10_1).f2.f1) from ge257_3)
            clear hv257_3 ge257_3
            have hv257_4 := hcc257 4 _ rfl
            rw [add_field _ _ 4 (by omega)] at hv257_4
            replace hv257_4 := Option.some.inj (hv257_4.symm.trans hx257_4)
            rw [hv257_4] at ge257_4
            have HL257_4 := Aside0.mk (show Kd.R (Kd.int .u8) 5 _ _ _ _ ((rd_T33 t247 x10_1).f2.f2) from ge257_4)
            clear hv257_4 ge257_4
            have hv257_5 := hcc257 5 _ rfl
            rw [add_field _ _ 5 (by omega)] at hv257_5
            replace hv257_5 := Option.some.inj (hv257_5.symm.trans hx257_5)
            rw [hv257_5] at ge257_5
            have HL257_5 := Aside0.mk (show Kd.R (Kd.int .u64) 47 _ _ _ _ ((rd_T33 t247 x10_1).f2.f3) from ge257_5)
            clear hv257_5 ge257_5
            clear hcc257 hce257
            have HR257_3 := Aside0.mk hi257_3
            have HC257_3 := Aside0.mk hl257_3
            clear hi257_3 hl257_3
            have HR257_4 := Aside0.mk hi257_4
            have HC257_4 := Aside0.mk hl257_4
            clear hi257_4 hl257_4
            have HR257_5 := Aside0.mk hi257_5
            have HC257_5 := Aside0.mk hl257_5
            clear hi257_5 hl257_5
            replace p257 := eq_true p257
            replace q257 := eq_true q257
            (try (have ea_ := Option.some.inj (HS3_.symm.trans hx257_3); injection ea_ with ea_ en_ ec_; subst ea_; subst ec_; clear en_))
            (try (have ea_ := Option.some.inj (HS4_.symm.trans hx257_4); injection ea_ with ea_ en_ ec_; subst ea_; subst ec_; clear en_))
            (try (have ea_ := Option.some.inj (HS5_.symm.trans hx257_5); injection ea_ with ea_ en_ ec_; subst ea_; subst ec_; clear en_))
            try go_wp2
            have n0_ := Aside0.mk (Kd.S_drew HO_8.out)
            have n1_ := Aside0.mk (Kd.S_drew HO_9.out)
            have n2_ := Aside0.mk (Kd.R_drew HL250_3.out)
            have n3_ := Aside0.mk (Kd.R_drew HL250_4.out)
            have n4_ := Aside0.mk (Kd.R_drew HL250_5.out)
            have n5_ := Aside0.mk (Kd.R_drew HL251_3.out)
            have n6_ := Aside0.mk (Kd.R_drew HL251_4.out)
            have n7_ := Aside0.mk (Kd.R_drew HL251_5.out)
            have n8_ := Aside0.mk (Kd.R_drew HL252_3.out)
            have n9_ := Aside0.mk (Kd.R_drew HL252_4.out)
            have n10_ := Aside0.mk (Kd.R_drew HL252_5.out)
            have n11_ := Aside0.mk (Kd.R_drew HO255.out)
            have n12_ := Aside0.mk (Kd.R_drew HL257_3.out)
            have n13_ := Aside0.mk (Kd.R_drew HL257_4.out)
            have n14_ := Aside0.mk (Kd.R_drew HL257_5.out)
            have n15_ := Aside0.mk (Kd.C_drew HR250_3.out)
            have n16_ := Aside0.mk (Kd.C_drew HR250_4.out)
            have n17_ := Aside0.mk (Kd.C_drew HR250_5.out)
            have n18_ := Aside0.mk (Kd.C_drew HR251_3.out)
            have n19_ := Aside0.mk (Kd.C_drew HR251_4.out)
            have n20_ := Aside0.mk (Kd.C_drew HR251_5.out)
            have n21_ := Aside0.mk (Kd.C_drew HR252_3.out)
            have n22_ := Aside0.mk (Kd.C_drew HR252_4.out)
            have n23_ := Aside0.mk (Kd.C_drew HR252_5.out)
            have n24_ := Aside0.mk (Kd.C_drew HR257_3.out)
            have n25_ := Aside0.mk (Kd.C_drew HR257_4.out)
            have n26_ := Aside0.mk (Kd.C_drew HR257_5.out)
            have n27_ := Aside0.mk (below_drew1 HB.out)
            clear HO_8
            clear HO_9
            clear HL250_3
            clear HL250_4
            clear HL250_5
            clear HL251_3
            clear HL251_4
            clear HL251_5
            clear HL252_3
            clear HL252_4
            clear HL252_5
            clear HO255
            clear HL257_3
            clear HL257_4
            clear HL257_5
            clear HR250_3
            clear HR250_4
            clear HR250_5
            clear HR251_3
            clear HR251_4
            clear HR251_5
            clear HR252_3
            clear HR252_4
            clear HR252_5
            clear HR257_3
            clear HR257_4
            clear HR257_5
            clear HB
            have HO_8 := n0_
            have HO_9 := n1_
            have HL250_3 := n2_
            have HL250_4 := n3_
            have HL250_5 := n4_
            have HL251_3 := n5_
            have HL251_4 := n6_
            have HL251_5 := n7_
            have HL252_3 := n8_
            have HL252_4 := n9_
            have HL252_5 := n10_
            have HO255 := n11_
            have HL257_3 := n12_
            have HL257_4 := n13_
            have HL257_5 := n14_
            have HR250_3 := n15_
            have HR250_4 := n16_
            have HR250_5 := n17_
            have HR251_3 := n18_
            have HR251_4 := n19_
            have HR251_5 := n20_
            have HR252_3 := n21_
            have HR252_4 := n22_
            have HR252_5 := n23_
            have HR257_3 := n24_
            have HR257_4 := n25_
            have HR257_5 := n26_
            have HB := n27_
            clear n0_ n1_ n2_ n3_ n4_ n5_ n6_ n7_ n8_ n9_ n10_ n11_ n12_ n13_ n14_ n15_ n16_ n17_ n18_ n19_ n20_ n21_ n22_ n23_ n24_ n25_ n26_ n27_
            have p258 : 0 ≤ (0 : Int) := (by omega)
            have q258 : 0 < (((rd_T33 t247 x10_1).f2.f1).length : Int) := of_decide_eq_true (by first | (with_reducible assumption) | assumption)
            obtain ⟨ad258, e258, hx258_0⟩ := Kd.at_int (by repeat (first | (with_reducible exact HR257_3.out) | (with_reducible refine Kd.C_alloc ?_ _) | (with_reducible refine Kd.C_drewN ?_ _) | (with_reducible refine Kd.C_drew ?_) | exact HR257_3.out)) 0 p258 q258
            cases e258
            have qi258 : (0 < ((rd_T33 t247 x10_1).f2.f1).length) = True := eq_true (by omega)
            (try rw [show ((0 : Int)).toNat = 0 from rfl] at hx258_0)
            (try rw [Addr.add_zero'] at hx258_0)
            replace p258 := eq_true p258
            replace q258 := eq_true q258
            have p259 : 0 ≤ (1 : Int) := (by omega)
            have q259 : 1 < (((rd_T33 t247 x10_1).f2.f1).length : Int) := of_decide_eq_true (by first | (with_reducible assumption) | assumption)
            obtain ⟨ad259, e259, hx259_0⟩ := Kd.at_int (by repeat (first | (with_reducible exact HR257_3.out) | (with_reducible refine Kd.C_alloc ?_ _) | (with_reducible refine Kd.C_drewN ?_ _) | (with_reducible refine Kd.C_drew ?_) | exact HR257_3.out)) 1 p259 q259
            obtain rfl : ad258 = ad259 := (by injection e259)
            (try simp only [show (1 : Int).toNat = 1 from rfl, Nat.reduceMul, Nat.reduceEqDiff, Go.Addr.add, ↓reduceIte] at hx259_0)
            have qi259 : (1 < ((rd_T33 t247 x10_1).f2.f1).length) = True := eq_true (by omega)
            (try rw [show ((1 : Int)).toNat = 1 from rfl] at hx259_0)
            replace p259 := eq_true p259
            replace q259 := eq_true q259
            have p260 : 0 ≤ (2 : Int) := (by omega)
            have q260 : 2 < (((rd_T33 t247 x10_1).f2.f1).length : Int) := of_decide_eq_true (by first | (with_reducible assumption) | assumption)
            obtain ⟨ad260, e260, hx260_0⟩ := Kd.at_int (by repeat (first | (with_reducible exact HR257_3.out) | (with_reducible refine Kd.C_alloc ?_ _) | (with_reducible refine Kd.C_drewN ?_ _) | (with_reducible refine Kd.C_drew ?_) | exact HR257_3.out)) 2 p260 q260
            obtain rfl : ad258 = ad260 := (by injection e260)
            (try simp only [show (2 : Int).toNat = 2 from rfl, Nat.reduceMul, Nat.reduceEqDiff, Go.Addr.add, ↓reduceIte] at hx260_0)
            have qi260 : (2 < ((rd_T33 t247 x10_1).f2.f1).length) = True := eq_true (by omega)
            (try rw [show ((2 : Int)).toNat = 2 from rfl] at hx260_0)
            replace p260 := eq_true p260
            replace q260 := eq_true q260
            have p261 : 0 ≤ (3 : Int) := (by omega)
            have q261 : 3 < (((rd_T33 t247 x10_1).f2.f1).length : Int) := of_decide_eq_true (by first | (with_reducible assumption) | assumption)
            obtain ⟨ad261, e261, hx261_0⟩ := Kd.at_int (by repeat (first | (with_reducible exact HR257_3.out) | (with_reducible refine Kd.C_alloc ?_ _) | (with_reducible refine Kd.C_drewN ?_ _) | (with_reducible refine Kd.C_drew ?_) | exact HR257_3.out)) 3 p261 q261
            obtain rfl : ad258 = ad261 := (by injection e261)
            (try simp only [show (3 : Int).toNat = 3 from rfl, Nat.reduceMul, Nat.reduceEqDiff, Go.Addr.add, ↓reduceIte] at hx261_0)
            have qi261 : (3 < ((rd_T33 t247 x10_1).f2.f1).length) = True := eq_true (by omega)
            (try rw [show ((3 : Int)).toNat = 3 from rfl] at hx261_0)
            replace p261 := eq_true p261
            replace q261 := eq_true q261
            obtain ⟨Ao20, co20, eo20⟩ := Kd.R_slice HO255.out
            (first | subst eo20 | (injection eo20 with f1_ f2_ f3_; have f4_ := f1_.symm; have f5_ := f3_.symm; clear f1_ f2_ f3_; subst f4_; subst f5_))
            refine start_ (n := 18) (S := fun w' => w'.cell? ad258 = some (.int .u64 (rd ((rd_T33 t247 x10_1).f2.f1) 0)) ∧ w'.cell? ⟨ad258.block, ad258.off + 1, none⟩ = some (.int .u64 (rd ((rd_T33 t247 x10_1).f2.f1) 1)) ∧ w'.cell? ⟨ad258.block, ad258.off + 2, none⟩ = some (.int .u64 (rd ((rd_T33 t247 x10_1).f2.f1) 2)) ∧ w'.cell? ⟨ad258.block, ad258.off + 3, none⟩ = some (.int .u64 (rd ((rd_T33 t247 x10_1).f2.f1) 3))) (ds := [15, 16]) #[false, false, false, false, false, false, false, false, false, false, false, false, false, false, false, false, false, false] (by kernel_rfl) rfl rfl ⟨hx258_0, hx259_0, hx260_0, hx261_0⟩ (fun hHeld => ?_); refine with_tabW logbookref17_Entries.tab11 logbookref17_Entries.bits11 (fun HT_ HW_ => ?_)
            generalize w18.drew = w19 at HO_8 HO_9 HL250_3 HL250_4 HL250_5 HL251_3 HL251_4 HL251_5 HL252_3 HL252_4 HL252_5 HO255 HL257_3 HL257_4 HL257_5 HR250_3 HR250_4 HR250_5 HR251_3 HR251_4 HR251_5 HR252_3 HR252_4 HR252_5 HR257_3 HR257_4 HR257_5 HB hx258_0 hx259_0 hx260_0 hx261_0 hHeld ⊢
            refine pure_ (i := 0) (N := some 55) (v := ?_) (a' := ?_) #[true, false, false, false, false, false, false, false, false, false, false, false, false, false, false, false, false, false] rfl rfl (any_of HT_.out (by kernel_rfl)) (fun _ _ _ h => h) (Or.inl ⟨by rfl, ?_⟩) ?_ ?_
            rotate_left
            ·intro w'
             go_simp
             with_reducible rfl
            rotate_left
            ·simp only [Act.put, List.setIfInBounds_toArray, List.set_cons_zero, List.set_cons_succ, i64_w, i32_w]
             rfl
            refine pure_ (i := 1) (N := some 56) (v := ?_) (a' := ?_) #[true, true, false, false, false, false, false, false, false, false, false, false, false, false, false, false, false, false] rfl rfl (any_of HT_.out (by kernel_rfl)) (fun _ _ _ h => h) (Or.inl ⟨by rfl, ?_⟩) ?_ ?_
            rotate_left
            ·intro w'
             go_simp
             with_reducible rfl
            rotate_left
            ·simp only [Act.put, List.setIfInBounds_toArray, List.set_cons_zero, List.set_cons_succ, i64_w, i32_w]
             rfl
            refine pure_ (i := 2) (N := some 57) (v := ?_) (a' := ?_) #[true, true, true, false, false, false, false, false, false, false, false, false, false, false, false, false, false, false] rfl rfl (any_of HT_.out (by kernel_rfl)) (fun _ _ _ h => h) (Or.inl ⟨by rfl, ?_⟩) ?_ ?_
            rotate_left
            ·intro w'
             go_simp
             with_reducible rfl
            rotate_left
            ·simp only [Act.put, List.setIfInBounds_toArray, List.set_cons_zero, List.set_cons_succ, i64_w, i32_w]
             rfl
            refine pure_ (i := 4) (N := some 59) (v := ?_) (a' := ?_) #[true, true, true, false, true, false, false, false, false, false, false, false, false, false, false, false, false, false] rfl rfl (any_of HT_.out (by kernel_rfl)) (fun _ _ _ h => h) (Or.inl ⟨by rfl, ?_⟩) ?_ ?_
            rotate_left
            ·intro w'
             go_simp
             with_reducible rfl
            rotate_left
            ·simp only [Act.put, List.setIfInBounds_toArray, List.set_cons_zero, List.set_cons_succ, i64_w, i32_w]
             rfl
            refine pure_ (i := 5) (N := some 60) (v := ?_) (a' := ?_) #[true, true, true, false, true, true, false, false, false, false, false, false, false, false, false, false, false, false] rfl rfl (any_of HT_.out (by kernel_rfl)) (fun _ _ _ h => h) (Or.inl ⟨by rfl, ?_⟩) ?_ ?_
            rotate_left
            ·intro w'
             go_simp
             with_reducible rfl
            rotate_left
            ·simp only [Act.put, List.setIfInBounds_toArray, List.set_cons_zero, List.set_cons_succ, i64_w, i32_w]
             rfl
            refine pure_ (i := 7) (N := some 62) (v := ?_) (a' := ?_) #[true, true, true, false, true, true, false, true, false, false, false, false, false, false, false, false, false, false] rfl rfl (any_of HT_.out (by kernel_rfl)) (fun _ _ _ h => h) (Or.inl ⟨by rfl, ?_⟩) ?_ ?_
            rotate_left
            ·intro w'
             go_simp
             with_reducible rfl
            rotate_left
            ·simp only [Act.put, List.setIfInBounds_toArray, List.set_cons_zero, List.set_cons_succ, i64_w, i32_w]
             rfl
            refine pure_ (i := 8) (N := some 63) (v := ?_) (a' := ?_) #[true, true, true, false, true, true, false, true, true, false, false, false, false, false, false, false, false, false] rfl rfl (any_of HT_.out (by kernel_rfl)) (fun _ _ _ h => h) (Or.inl ⟨by rfl, ?_⟩) ?_ ?_
            rotate_left
            ·intro w'
             go_simp
             with_reducible rfl
            rotate_left
            ·simp only [Act.put, List.setIfInBounds_toArray, List.set_cons_zero, List.set_cons_succ, i64_w, i32_w]
             rfl
            refine pure_ (i := 10) (N := some 65) (v := ?_) (a' := ?_) #[true, true, true, false, true, true, false, true, true, false, true, false, false, false, false, false, false, false] rfl rfl (any_of HT_.out (by kernel_rfl)) (fun _ _ _ h => h) (Or.inl ⟨by rfl, ?_⟩) ?_ ?_
            rotate_left
            ·intro w'
             go_simp
             with_reducible rfl
            rotate_left
            ·simp only [Act.put, List.setIfInBounds_toArray, List.set_cons_zero, List.set_cons_succ, i64_w, i32_w]
             rfl
            refine pure_ (i := 11) (N := some 66) (v := ?_) (a' := ?_) #[true, true, true, false, true, true, false, true, true, false, true, true, false, false, false, false, false, false] rfl rfl (any_of HT_.out (by kernel_rfl)) (fun _ _ _ h => h) (Or.inl ⟨by rfl, ?_⟩) ?_ ?_
            rotate_left
            ·intro w'
             go_simp
             with_reducible rfl
            rotate_left
            ·simp only [Act.put, List.setIfInBounds_toArray, List.set_cons_zero, List.set_cons_succ, i64_w, i32_w]
             rfl
            refine pure_ (i := 13) (N := some 68) (v := ?_) (a' := ?_) #[true, true, true, false, true, true, false, true, true, false, true, true, false, true, false, false, false, false] rfl rfl (any_of HT_.out (by kernel_rfl)) (fun _ _ _ h => h) (Or.inl ⟨by rfl, ?_⟩) ?_ ?_
            rotate_left
            ·intro w'
             go_simp
             with_reducible rfl
            rotate_left
            ·simp only [Act.put, List.setIfInBounds_toArray, List.set_cons_zero, List.set_cons_succ, i64_w, i32_w]
             rfl
            refine take_ (i := 3) (N := some 58) (v := ?_) (a' := ?_) #[true, true, true, true, true, true, false, true, true, false, true, true, false, true, false, false, false, false] rfl rfl (take_ofW HT_.out HW_.out (by kernel_rfl)) (fun _ _ _ h => h) (Or.inl ⟨by rfl, ?_⟩) hHeld ?_ ?_
            rotate_left
            ·rintro w' ⟨s0, s1, s2, s3⟩
             go_simp
             with_reducible rfl
            rotate_left
            ·simp only [Act.put, List.setIfInBounds_toArray, List.set_cons_zero, List.set_cons_succ, i64_w, i32_w]
             rfl
            refine take_ (i := 6) (N := some 61) (v := ?_) (a' := ?_) #[true, true, true, true, true, true, true, true, true, false, true, true, false, true, false, false, false, false] rfl rfl (take_ofW HT_.out HW_.out (by kernel_rfl)) (fun _ _ _ h => h) (Or.inl ⟨by rfl, ?_⟩) hHeld ?_ ?_
            rotate_left
            ·rintro w' ⟨s0, s1, s2, s3⟩
             go_simp
             with_reducible rfl
            rotate_left
            ·simp only [Act.put, List.setIfInBounds_toArray, List.set_cons_zero, List.set_cons_succ, i64_w, i32_w]
             rfl
            refine take_ (i := 9) (N := some 64) (v := ?_) (a' := ?_) #[true, true, true, true, true, true, true, true, true, true, true, true, false, true, false, false, false, false] rfl rfl (take_ofW HT_.out HW_.out (by kernel_rfl)) (fun _ _ _ h => h) (Or.inl ⟨by rfl, ?_⟩) hHeld ?_ ?_
            rotate_left
            ·rintro w' ⟨s0, s1, s2, s3⟩
             go_simp
             with_reducible rfl
            rotate_left
            ·simp only [Act.put, List.setIfInBounds_toArray, List.set_cons_zero, List.set_cons_succ, i64_w, i32_w]
             rfl
            refine take_ (i := 12) (N := some 67) (v := ?_) (a' := ?_) #[true, true, true, true, true, true, true, true, true, true, true, true, true, true, false, false, false, false] rfl rfl (take_ofW HT_.out HW_.out (by kernel_rfl)) (fun _ _ _ h => h) (Or.inl ⟨by rfl, ?_⟩) hHeld ?_ ?_
            rotate_left
            ·rintro w' ⟨s0, s1, s2, s3⟩
             go_simp
             with_reducible rfl
            rotate_left
            ·simp only [Act.put, List.setIfInBounds_toArray, List.set_cons_zero, List.set_cons_succ, i64_w, i32_w]
             rfl
            refine pure_ (i := 14) (N := some 69) (v := ?_) (a' := ?_) #[true, true, true, true, true, true, true, true, true, true, true, true, true, true, true, false, false, false] rfl rfl (any_of HT_.out (by kernel_rfl)) (fun _ _ _ h => h) (Or.inl ⟨by rfl, ?_⟩) ?_ ?_
            rotate_left
            ·intro w'
             go_simp
             with_reducible rfl
            rotate_left
            ·simp only [Act.put, List.setIfInBounds_toArray, List.set_cons_zero, List.set_cons_succ, i64_w, i32_w]
             rfl
            refine last_ (i := 15) (N := some 70) #[true, true, true, true, true, true, true, true, true, true, true, true, true, true, true, true, false, false] rfl rfl (one_of HT_.out (by kernel_rfl)) (by decide) (fun K hK => ?_)
            refine value_ (w1 := ?_) (v := ?_) (by rfl) rfl ?_ ?_
            rotate_left 2
            ·go_simp
             constructor
             ·rfl
             ·rfl
            refine hK.out _ _ ?_
            clear hK K
            refine norm_ (a' := ?_) ?_ ?_
            rotate_left
            ·show Act.put _ (some 70) _ = _
             simp only [Act.put, List.setIfInBounds_toArray, List.set_cons_zero, List.set_cons_succ, i64_w, i32_w]
             rfl
            refine last_ (i := 16) (N := some 71) #[true, true, true, true, true, true, true, true, true, true, true, true, true, true, true, true, true, false] rfl rfl (one_of HT_.out (by kernel_rfl)) (by decide) (fun K hK => ?_)
            refine Kd.S_append_step k57 (w0 := w) w.heap.size (by rfl) (.tmp 55) (.tmp 70) 36 57 (.agg #[(.int .u64 0), (.int .u64 0), (.int .u64 0), (.int .u64 0), (.slice none 0 0)]) 56 rfl Try.underlying36 info57 rfl (by decide) (by omega) u8 x8_1 (⟨rd ((rd_T33 t247 x10_1).f2.f1) 0, rd ((rd_T33 t247 x10_1).f2.f1) 1, rd ((rd_T33 t247 x10_1).f2.f1) 2, rd ((rd_T33 t247 x10_1).f2.f1) 3, t253⟩ : S57) [.int .u64 (rd ((rd_T33 t247 x10_1).f2.f1) 0), .int .u64 (rd ((rd_T33 t247 x10_1).f2.f1) 1), .int .u64 (rd ((rd_T33 t247 x10_1).f2.f1) 2), .int .u64 (rd ((rd_T33 t247 x10_1).f2.f1) 3), .slice Ao20 t253.length co20] (fun _ => True) (fun k_ => some k_ = (.slice Ao20 t253.length co20 : Value).ownBlock) rfl rfl ?aP (fun k_ hk_ => ((Kd.R_mono (ok' := fun k_ => ((fun _ => True)) k_ ∧ some k_ ≠ (u8 : Value).ownBlock) (Kd.R_apart' (HO255.out) (Kd.S_typed HO_8.out) (by decide)) (fun k_ hk => ⟨trivial, hk.2⟩))).1 k_ hk_.symm) ?aF ?aO ?aB ?aS ?aL ?_
            (case aP => exact k57_mkM _ _ _ (⟨rd ((rd_T33 t247 x10_1).f2.f1) 0, rd ((rd_T33 t247 x10_1).f2.f1) 1, rd ((rd_T33 t247 x10_1).f2.f1) 2, rd ((rd_T33 t247 x10_1).f2.f1) 3, t253⟩ : S57) (Kd.R_mono (Kd.R_tight rfl (Kd.R_mono (ok' := fun k_ => ((fun _ => True)) k_ ∧ some k_ ≠ (u8 : Value).ownBlock) (Kd.R_apart' (HO255.out) (Kd.S_typed HO_8.out) (by decide)) (fun k_ hk => ⟨trivial, hk.2⟩))) (fun _ h_ => h_)))
            (case aB => exact (by repeat (first | (with_reducible first | exact HB.out | apply below_alloc | apply pw_below_drewN | apply below_drew1) | exact HB.out)))
            (case aF => exact (fun _ _ => trivial))
            (case aO => exact (by (with_reducible repeat (first | apply Kd.S_alloc | apply Kd.S_drewN | apply Kd.S_drew)); exact Kd.S_mono HO_8.out (fun k_ hk => ⟨trivial, fun e_ => hk.2 e_⟩)))
            (case aS => exact (below_size (by repeat (first | (with_reducible first | exact HB.out | apply below_alloc | apply pw_below_drewN | apply below_drew1) | exact HB.out))))
            (case aL => have := LMc15.out; omega)
            intro v263 w21 ho hb hg hat
            rw [← Ny262.out] at ho
            have n0_ := Aside0.mk (Kd.S_over' (by (with_reducible repeat (first | apply Kd.S_alloc | apply Kd.S_drewN | apply Kd.S_drew)); exact HO_9.out) (Kd.S_typed (by (with_reducible repeat (first | apply Kd.S_alloc | apply Kd.S_drewN | apply Kd.S_drew)); exact HO_8.out)) (by decide) hg)
            have n1_ := Aside0.mk (Kd.R_over' (by (with_reducible repeat (first | apply Kd.R_alloc | apply Kd.R_drewN | apply Kd.R_drew)); exact HL250_3.out) (Kd.S_typed (by (with_reducible repeat (first | apply Kd.S_alloc | apply Kd.S_drewN | apply Kd.S_drew)); exact HO_8.out)) (by decide) hg)
            have n2_ := Aside0.mk (Kd.R_over' (by (with_reducible repeat (first | apply Kd.R_alloc | apply Kd.R_drewN | apply Kd.R_drew)); exact HL250_4.out) (Kd.S_typed (by (with_reducible repeat (first | apply Kd.S_alloc | apply Kd.S_drewN | apply Kd.S_drew)); exact HO_8.out)) (by decide) hg)
            have n3_ := Aside0.mk (Kd.R_over' (by (with_reducible repeat (first | apply Kd.R_alloc | apply Kd.R_drewN | apply Kd.R_drew)); exact HL250_5.out) (Kd.S_typed (by (with_reducible repeat (first | apply Kd.S_alloc | apply Kd.S_drewN | apply Kd.S_drew)); exact HO_8.out)) (by decide) hg)
            have n4_ := Aside0.mk (Kd.R_over' (by (with_reducible repeat (first | apply Kd.R_alloc | apply Kd.R_drewN | apply Kd.R_drew)); exact HL251_3.out) (Kd.S_typed (by (with_reducible repeat (first | apply Kd.S_alloc | apply Kd.S_drewN | apply Kd.S_drew)); exact HO_8.out)) (by decide) hg)
            have n5_ := Aside0.mk (Kd.R_over' (by (with_reducible repeat (first | apply Kd.R_alloc | apply Kd.R_drewN | apply Kd.R_drew)); exact HL251_4.out) (Kd.S_typed (by (with_reducible repeat (first | apply Kd.S_alloc | apply Kd.S_drewN | apply Kd.S_drew)); exact HO_8.out)) (by decide) hg)
            have n6_ := Aside0.mk (Kd.R_over' (by (with_reducible repeat (first | apply Kd.R_alloc | apply Kd.R_drewN | apply Kd.R_drew)); exact HL251_5.out) (Kd.S_typed (by (with_reducible repeat (first | apply Kd.S_alloc | apply Kd.S_drewN | apply Kd.S_drew)); exact HO_8.out)) (by decide) hg)
            have n7_ := Aside0.mk (Kd.R_over' (by (with_reducible repeat (first | apply Kd.R_alloc | apply Kd.R_drewN | apply Kd.R_drew)); exact HL252_3.out) (Kd.S_typed (by (with_reducible repeat (first | apply Kd.S_alloc | apply Kd.S_drewN | apply Kd.S_drew)); exact HO_8.out)) (by decide) hg)
            have n8_ := Aside0.mk (Kd.R_over' (by (with_reducible repeat (first | apply Kd.R_alloc | apply Kd.R_drewN | apply Kd.R_drew)); exact HL252_4.out) (Kd.S_typed (by (with_reducible repeat (first | apply Kd.S_alloc | apply Kd.S_drewN | apply Kd.S_drew)); exact HO_8.out)) (by decide) hg)
            have n9_ := Aside0.mk (Kd.R_over' (by (with_reducible repeat (first | apply Kd.R_alloc | apply Kd.R_drewN | apply Kd.R_drew)); exact HL252_5.out) (Kd.S_typed (by (with_reducible repeat (first | apply Kd.S_alloc | apply Kd.S_drewN | apply Kd.S_drew)); exact HO_8.out)) (by decide) hg)
            have n10_ := Aside0.mk (Kd.R_over' (by (with_reducible repeat (first | apply Kd.R_alloc | apply Kd.R_drewN | apply Kd.R_drew)); exact HL257_3.out) (Kd.S_typed (by (with_reducible repeat (first | apply Kd.S_alloc | apply Kd.S_drewN | apply Kd.S_drew)); exact HO_8.out)) (by decide) hg)
            have n11_ := Aside0.mk (Kd.R_over' (by (with_reducible repeat (first | apply Kd.R_alloc | apply Kd.R_drewN | apply Kd.R_drew)); exact HL257_4.out) (Kd.S_typed (by (with_reducible repeat (first | apply Kd.S_alloc | apply Kd.S_drewN | apply Kd.S_drew)); exact HO_8.out)) (by decide) hg)
            have n12_ := Aside0.mk (Kd.R_over' (by (with_reducible repeat (first | apply Kd.R_alloc | apply Kd.R_drewN | apply Kd.R_drew)); exact HL257_5.out) (Kd.S_typed (by (with_reducible repeat (first | apply Kd.S_alloc | apply Kd.S_drewN | apply Kd.S_drew)); exact HO_8.out)) (by decide) hg)
            have n13_ := Aside0.mk (hb)
            have n14_ := Aside0.mk (ho)
            clear HO_9
            clear HL250_3
            clear HL250_4
            clear HL250_5
            clear HL251_3
            clear HL251_4
            clear HL251_5
            clear HL252_3
            clear HL252_4
            clear HL252_5
            clear HL257_3
            clear HL257_4
            clear HL257_5
            clear HB
            clear HO_8
            clear HO255
            have HO_9 := n0_
            have HL250_3 := n1_
            have HL250_4 := n2_
            have HL250_5 := n3_
            have HL251_3 := n4_
            have HL251_4 := n5_
            have HL251_5 := n6_
            have HL252_3 := n7_
            have HL252_4 := n8_
            have HL252_5 := n9_
            have HL257_3 := n10_
            have HL257_4 := n11_
            have HL257_5 := n12_
            have HB := n13_
            have HO264 := n14_
            clear n0_ n1_ n2_ n3_ n4_ n5_ n6_ n7_ n8_ n9_ n10_ n11_ n12_ n13_ n14_
            clear ho hb hg hat
            refine hK.out _ _ ?_
            clear hK K
            refine norm_ (a' := ?_) ?_ ?_
            rotate_left
            ·show Act.put _ (some 71) _ = _
             simp only [Act.put, List.setIfInBounds_toArray, List.set_cons_zero, List.set_cons_succ, i64_w, i32_w]
             rfl
            refine pure_ (i := 17) (N := some 8) (v := ?_) (a' := ?_) #[true, true, true, true, true, true, true, true, true, true, true, true, true, true, true, true, true, true] rfl rfl (any_of HT_.out (by kernel_rfl)) (fun _ _ _ h => h) (Or.inl ⟨by rfl, ?_⟩) ?_ ?_
            rotate_left
            ·intro w'
             go_simp
             with_reducible rfl
            rotate_left
            ·simp only [Act.put, List.setIfInBounds_toArray, List.set_cons_zero, List.set_cons_succ, i64_w, i32_w]
             rfl
            refine done_ (done_of HT_.out (by kernel_rfl)) ?_
            try go_wp2
            go_roundg k1
            case measure => have := HK1.out; omega
            case rel => exact ⟨(y262), (wrap64 (x10_1 + 1)), (by first | rfl | (simp; done) | (simp [*]; done) | exact isEmpty_bne _), H', ⟨by have := HK1.out; omega⟩, ⟨by (with_reducible repeat (first | apply Kd.S_alloc | apply Kd.S_drewN | apply Kd.S_drew)); exact HO264.out⟩, ⟨by (with_reducible repeat (first | apply Kd.S_alloc | apply Kd.S_drewN | apply Kd.S_drew)); exact HO_9.out⟩, ⟨by repeat (first | (with_reducible first | exact HB.out | apply below_alloc | apply pw_below_drewN | apply below_drew1) | exact HB.out)⟩⟩
           ·rw [if_neg c15] at H
            exact absurd H (by simp)
          ·rw [if_neg c14] at H
           exact absurd H (by simp)
         ·rw [if_neg c13] at H
          exact absurd H (by simp)
        ·rw [if_neg c12] at H
         exact absurd H (by simp)
       ·rw [if_neg c11] at H
        exact absurd H (by simp)
      ·replace c10 := Bool.eq_false_iff.mpr c10
       subst c10
       have H1 : (some (([] : List (S57)), false)) = some (r1, r2) := by rw [if_neg (show ¬ (false = true) by decide)] at H; exact H
       clear H
       have H := H1
       clear H1
       simp only [Option.some.injEq, Prod.mk.injEq] at H
       obtain ⟨rfl, rfl⟩ := H
       obtain ⟨Ao22, co22, eo22⟩ := Kd.S_slice HO_9.out
       subst eo22
       have p250 : 0 ≤ (x10_1 : Int) := of_decide_eq_true (by first | (with_reducible assumption) | assumption)
       have q250 : x10_1 < (t247.length : Int) := of_decide_eq_true (by first | (with_reducible assumption) | assumption)
       try (obtain ⟨Az_, cz_, ez_⟩ := Kd.S_slice HO_9.out; subst ez_)
       obtain ⟨ad250, A250_3, c250_3, A250_4, c250_4, A250_5, c250_5, e250, hx250_0, hx250_1, hx250_2, hx250_3, hx250_4, hx250_5, hl250_3, hi250_3, hl250_4, hi250_4, hl250_5, hi250_5⟩ := at_T33 (Kd.S_reads' HO_9.out).2.2 x10_1 p250 q250
       cases e250
       obtain ⟨ce250, hce250, hMe250, hcc250⟩ := Kd.S_get HO_9.out z33 x10_1 p250 (by first | exact q250 | exact of_decide_eq_true (by first | (with_reducible assumption) | assumption) | (have e_ := (Kd.S_reads' HO_9.out).1; omega))
       obtain ⟨ve250_3, ve250_4, ve250_5, rfl, ge250_3, ge250_4, ge250_5⟩ := k33_openM hMe250
       have hv250_3 := hcc250 3 _ rfl
       rw [add_field _ _ 3 (by omega)] at hv250_3
       replace hv250_3 := Option.some.inj (hv250_3.symm.trans hx250_3)
       rw [hv250_3] at ge250_3
       have HL250_3 := Aside0.mk (show Kd.R (Kd.int .u64) 47 _ _ _ _ ((rd_T33 t247 x10_1).f2.f1) from ge250_3)
       clear hv250_3 ge250_3
       have hv250_4 := hcc250 4 _ rfl
       rw [add_field _ _ 4 (by omega)] at hv250_4
       replace hv250_4 := Option.some.inj (hv250_4.symm.trans hx250_4)
       rw [hv250_4] at ge250_4
       have HL250_4 := Aside0.mk (show Kd.R (Kd.int .u8) 5 _ _ _ _ ((rd_T33 t247 x10_1).f2.f2) from ge250_4)
       clear hv250_4 ge250_4
       have hv250_5 := hcc250 5 _ rfl
       rw [add_field _ _ 5 (by omega)] at hv250_5
       replace hv250_5 := Option.some.inj (hv250_5.symm.trans hx250_5)
       rw [hv250_5] at ge250_5
       have HL250_5 := Aside0.mk (show Kd.R (Kd.int .u64) 47 _ _ _ _ ((rd_T33 t247 x10_1).f2.f3) from ge250_5)
       clear hv250_5 ge250_5
       clear hcc250 hce250
       have HR250_3 := Aside0.mk hi250_3
       have HC250_3 := Aside0.mk hl250_3
       clear hi250_3 hl250_3
       have HR250_4 := Aside0.mk hi250_4
       have HC250_4 := Aside0.mk hl250_4
       clear hi250_4 hl250_4
       have HR250_5 := Aside0.mk hi250_5
       have HC250_5 := Aside0.mk hl250_5
       clear hi250_5 hl250_5
       replace p250 := eq_true p250
       replace q250 := eq_true q250
       (try (have ea_ := Option.some.inj (HS3_.symm.trans hx250_3); injection ea_ with ea_ en_ ec_; subst ea_; subst ec_; clear en_))
       (try (have ea_ := Option.some.inj (HS4_.symm.trans hx250_4); injection ea_ with ea_ en_ ec_; subst ea_; subst ec_; clear en_))
       (try (have ea_ := Option.some.inj (HS5_.symm.trans hx250_5); injection ea_ with ea_ en_ ec_; subst ea_; subst ec_; clear en_))
       try go_wp2
       have n0_ := Aside0.mk (Kd.S_drew HO_8.out)
       have n1_ := Aside0.mk (Kd.S_drew HO_9.out)
       have n2_ := Aside0.mk (Kd.R_drew HL250_3.out)
       have n3_ := Aside0.mk (Kd.R_drew HL250_4.out)
       have n4_ := Aside0.mk (Kd.R_drew HL250_5.out)
       have n5_ := Aside0.mk (Kd.C_drew HR250_3.out)
       have n6_ := Aside0.mk (Kd.C_drew HR250_4.out)
       have n7_ := Aside0.mk (Kd.C_drew HR250_5.out)
       have n8_ := Aside0.mk (below_drew1 HB.out)
       clear HO_8
       clear HO_9
       clear HL250_3
       clear HL250_4
       clear HL250_5
       clear HR250_3
       clear HR250_4
       clear HR250_5
       clear HB
       have HO_8 := n0_
       have HO_9 := n1_
       have HL250_3 := n2_
       have HL250_4 := n3_
       have HL250_5 := n4_
       have HR250_3 := n5_
       have HR250_4 := n6_
       have HR250_5 := n7_
       have HB := n8_
       clear n0_ n1_ n2_ n3_ n4_ n5_ n6_ n7_ n8_
       have p251 : 0 ≤ (x10_1 : Int) := of_decide_eq_true (by first | (with_reducible assumption) | assumption)
       have q251 : x10_1 < (t247.length : Int) := of_decide_eq_true (by first | (with_reducible assumption) | assumption)
       try (obtain ⟨Az_, cz_, ez_⟩ := Kd.S_slice HO_9.out; subst ez_)
       obtain ⟨ad251, A251_3, c251_3, A251_4, c251_4, A251_5, c251_5, e251, hx251_0, hx251_1, hx251_2, hx251_3, hx251_4, hx251_5, hl251_3, hi251_3, hl251_4, hi251_4, hl251_5, hi251_5⟩ := at_T33 (Kd.S_reads' HO_9.out).2.2 x10_1 p251 q251
       obtain rfl : ad250 = ad251 := (by injection e251)
       obtain ⟨ce251, hce251, hMe251, hcc251⟩ := Kd.S_get HO_9.out z33 x10_1 p251 (by first | exact q251 | exact of_decide_eq_true (by first | (with_reducible assumption) | assumption) | (have e_ := (Kd.S_reads' HO_9.out).1; omega))
       obtain ⟨ve251_3, ve251_4, ve251_5, rfl, ge251_3, ge251_4, ge251_5⟩ := k33_openM hMe251
       have hv251_3 := hcc251 3 _ rfl
       rw [add_field _ _ 3 (by omega)] at hv251_3
       replace hv251_3 := Option.some.inj (hv251_3.symm.trans hx251_3)
       rw [hv251_3] at ge251_3
       have HL251_3 := Aside0.mk (show Kd.R (Kd.int .u64) 47 _ _ _ _ ((rd_T33 t247 x10_1).f2.f1) from ge251_3)
       clear hv251_3 ge251_3
       have hv251_4 := hcc251 4 _ rfl
       rw [add_field _ _ 4 (by omega)] at hv251_4
       replace hv251_4 := Option.some.inj (hv251_4.symm.trans hx251_4)
       rw [hv251_4] at ge251_4
       have HL251_4 := Aside0.mk (show Kd.R (Kd.int .u8) 5 _ _ _ _ ((rd_T33 t247 x10_1).f2.f2) from ge251_4)
       clear hv251_4 ge251_4
       have hv251_5 := hcc251 5 _ rfl
       rw [add_field _ _ 5 (by omega)] at hv251_5
       replace hv251_5 := Option.some.inj (hv251_5.symm.trans hx251_5)
       rw [hv251_5] at ge251_5
       have HL251_5 := Aside0.mk (show Kd.R (Kd.int .u64) 47 _ _ _ _ ((rd_T33 t247 x10_1).f2.f3) from ge251_5)
       clear hv251_5 ge251_5
       clear hcc251 hce251
       have HR251_3 := Aside0.mk hi251_3
       have HC251_3 := Aside0.mk hl251_3
       clear hi251_3 hl251_3
       have HR251_4 := Aside0.mk hi251_4
       have HC251_4 := Aside0.mk hl251_4
       clear hi251_4 hl251_4
       have HR251_5 := Aside0.mk hi251_5
       have HC251_5 := Aside0.mk hl251_5
       clear hi251_5 hl251_5
       replace p251 := eq_true p251
       replace q251 := eq_true q251
       (try (have ea_ := Option.some.inj (HS3_.symm.trans hx251_3); injection ea_ with ea_ en_ ec_; subst ea_; subst ec_; clear en_))
       (try (have ea_ := Option.some.inj (HS4_.symm.trans hx251_4); injection ea_ with ea_ en_ ec_; subst ea_; subst ec_; clear en_))
       (try (have ea_ := Option.some.inj (HS5_.symm.trans hx251_5); injection ea_ with ea_ en_ ec_; subst ea_; subst ec_; clear en_))
       have p252 : 0 ≤ (x10_1 : Int) := of_decide_eq_true (by first | (with_reducible assumption) | assumption)
       have q252 : x10_1 < (t247.length : Int) := of_decide_eq_true (by first | (with_reducible assumption) | assumption)
       try (obtain ⟨Az_, cz_, ez_⟩ := Kd.S_slice HO_9.out; subst ez_)
       obtain ⟨ad252, A252_3, c252_3, A252_4, c252_4, A252_5, c252_5, e252, hx252_0, hx252_1, hx252_2, hx252_3, hx252_4, hx252_5, hl252_3, hi252_3, hl252_4, hi252_4, hl252_5, hi252_5⟩ := at_T33 (Kd.S_reads' HO_9.out).2.2 x10_1 p252 q252
       obtain rfl : ad250 = ad252 := (by injection e252)
       obtain ⟨ce252, hce252, hMe252, hcc252⟩ := Kd.S_get HO_9.out z33 x10_1 p252 (by first | exact q252 | exact of_decide_eq_true (by first | (with_reducible assumption) | assumption) | (have e_ := (Kd.S_reads' HO_9.out).1; omega))
       obtain ⟨ve252_3, ve252_4, ve252_5, rfl, ge252_3, ge252_4, ge252_5⟩ := k33_openM hMe252
       have hv252_3 := hcc252 3 _ rfl
       rw [add_field _ _ 3 (by omega)] at hv252_3
       replace hv252_3 := Option.some.inj (hv252_3.symm.trans hx252_3)
       rw [hv252_3] at ge252_3
       have HL252_3 := Aside0.mk (show Kd.R (Kd.int .u64) 47 _ _ _ _ ((rd_T33 t247 x10_1).f2.f1) from ge252_3)
       clear hv252_3 ge252_3
       have hv252_4 := hcc252 4 _ rfl
       rw [add_field _ _ 4 (by omega)] at hv252_4
       replace hv252_4 := Option.some.inj (hv252_4.symm.trans hx252_4)
       rw [hv252_4] at ge252_4
       have HL252_4 := Aside0.mk (show Kd.R (Kd.int .u8) 5 _ _ _ _ ((rd_T33 t247 x10_1).f2.f2) from ge252_4)
       clear hv252_4 ge252_4
       have hv252_5 := hcc252 5 _ rfl
       rw [add_field _ _ 5 (by omega)] at hv252_5
       replace hv252_5 := Option.some.inj (hv252_5.symm.trans hx252_5)
       rw [hv252_5] at ge252_5
       have HL252_5 := Aside0.mk (show Kd.R (Kd.int .u64) 47 _ _ _ _ ((rd_T33 t247 x10_1).f2.f3) from ge252_5)
       clear hv252_5 ge252_5
       clear hcc252 hce252
       have HR252_3 := Aside0.mk hi252_3
       have HC252_3 := Aside0.mk hl252_3
       clear hi252_3 hl252_3
       have HR252_4 := Aside0.mk hi252_4
       have HC252_4 := Aside0.mk hl252_4
       clear hi252_4 hl252_4
       have HR252_5 := Aside0.mk hi252_5
       have HC252_5 := Aside0.mk hl252_5
       clear hi252_5 hl252_5
       replace p252 := eq_true p252
       replace q252 := eq_true q252
       (try (have ea_ := Option.some.inj (HS3_.symm.trans hx252_3); injection ea_ with ea_ en_ ec_; subst ea_; subst ec_; clear en_))
       (try (have ea_ := Option.some.inj (HS4_.symm.trans hx252_4); injection ea_ with ea_ en_ ec_; subst ea_; subst ec_; clear en_))
       (try (have ea_ := Option.some.inj (HS5_.symm.trans hx252_5); injection ea_ with ea_ en_ ec_; subst ea_; subst ec_; clear en_))
       have ea_ := Option.some.inj (hx251_3.symm.trans hx252_3)
       injection ea_ with ea_ en_ ec_
       subst ea_
       subst ec_
       clear en_
       have ea_ := Option.some.inj (hx251_4.symm.trans hx252_4)
       injection ea_ with ea_ en_ ec_
       subst ea_
       subst ec_
       clear en_
       have ea_ := Option.some.inj (hx251_5.symm.trans hx252_5)
       injection ea_ with ea_ en_ ec_
       subst ea_
       subst ec_
       clear en_
       refine start_ (n := 18) (S := fun w' => w'.cell? (ad250.add ((x10_1).toNat * 6)) = some (.int .i64 ((rd_T33 t247 x10_1).f0)) ∧ w'.cell? ⟨(ad250.add ((x10_1).toNat * 6)).block, (ad250.add ((x10_1).toNat * 6)).off + 1, none⟩ = some (.int .i64 ((rd_T33 t247 x10_1).f1)) ∧ w'.cell? ⟨(ad250.add ((x10_1).toNat * 6)).block, (ad250.add ((x10_1).toNat * 6)).off + 2, none⟩ = some (.int .i64 ((rd_T33 t247 x10_1).f2.f0)) ∧ w'.cell? ⟨(ad250.add ((x10_1).toNat * 6)).block, (ad250.add ((x10_1).toNat * 6)).off + 3, none⟩ = some (.slice A251_3 ((rd_T33 t247 x10_1).f2.f1).length c251_3) ∧ w'.cell? ⟨(ad250.add ((x10_1).toNat * 6)).block, (ad250.add ((x10_1).toNat * 6)).off + 4, none⟩ = some (.slice A251_4 ((rd_T33 t247 x10_1).f2.f2).length c251_4) ∧ w'.cell? ⟨(ad250.add ((x10_1).toNat * 6)).block, (ad250.add ((x10_1).toNat * 6)).off + 5, none⟩ = some (.slice A251_5 ((rd_T33 t247 x10_1).f2.f3).length c251_5) ∧ w'.cell? (ad250.add ((x10_1).toNat * 6)) = some (.int .i64 ((rd_T33 t247 x10_1).f0)) ∧ w'.cell? ⟨(ad250.add ((x10_1).toNat * 6)).block, (ad250.add ((x10_1).toNat * 6)).off + 1, none⟩ = some (.int .i64 ((rd_T33 t247 x10_1).f1)) ∧ w'.cell? ⟨(ad250.add ((x10_1).toNat * 6)).block, (ad250.add ((x10_1).toNat * 6)).off + 2, none⟩ = some (.int .i64 ((rd_T33 t247 x10_1).f2.f0)) ∧ w'.cell? ⟨(ad250.add ((x10_1).toNat * 6)).block, (ad250.add ((x10_1).toNat * 6)).off + 3, none⟩ = some (.slice A251_3 ((rd_T33 t247 x10_1).f2.f1).length c251_3) ∧ w'.cell? ⟨(ad250.add ((x10_1).toNat * 6)).block, (ad250.add ((x10_1).toNat * 6)).off + 4, none⟩ = some (.slice A251_4 ((rd_T33 t247 x10_1).f2.f2).length c251_4) ∧ w'.cell? ⟨(ad250.add ((x10_1).toNat * 6)).block, (ad250.add ((x10_1).toNat * 6)).off + 5, none⟩ = some (.slice A251_5 ((rd_T33 t247 x10_1).f2.f3).length c251_5)) (ds := []) #[false, false, false, false, false, false, false, false, false, false, false, false, false, false, false, false, false, false] (by kernel_rfl) rfl rfl ⟨hx251_0, hx251_1, hx251_2, hx251_3, hx251_4, hx251_5, hx252_0, hx252_1, hx252_2, hx252_3, hx252_4, hx252_5⟩ (fun hHeld => ?_); refine with_tabW logbookref17_Entries.tab7 logbookref17_Entries.bits7 (fun HT_ HW_ => ?_)
       generalize wr.drew = w23 at HO_8 HO_9 HL250_3 HL250_4 HL250_5 HR250_3 HR250_4 HR250_5 HB HL251_3 HL251_4 HL251_5 HL252_3 HL252_4 HL252_5 HR251_3 HR251_4 HR251_5 HR252_3 HR252_4 HR252_5 hx251_0 hx251_1 hx251_2 hx251_3 hx251_4 hx251_5 hx252_0 hx252_1 hx252_2 hx252_3 hx252_4 hx252_5 hHeld ⊢
       refine pure_ (i := 0) (N := some 32) (v := ?_) (a' := ?_) #[true, false, false, false, false, false, false, false, false, false, false, false, false, false, false, false, false, false] rfl rfl (any_of HT_.out (by kernel_rfl)) (fun _ _ _ h => h) (Or.inl ⟨by rfl, ?_⟩) ?_ ?_
       rotate_left
       ·intro w'
        go_simp
        with_reducible rfl
       rotate_left
       ·simp only [Act.put, List.setIfInBounds_toArray, List.set_cons_zero, List.set_cons_succ, i64_w, i32_w]
        rfl
       refine pure_ (i := 1) (N := some 33) (v := ?_) (a' := ?_) #[true, true, false, false, false, false, false, false, false, false, false, false, false, false, false, false, false, false] rfl rfl (any_of HT_.out (by kernel_rfl)) (fun _ _ _ h => h) (Or.inl ⟨by rfl, ?_⟩) ?_ ?_
       rotate_left
       ·intro w'
        go_simp
        with_reducible rfl
       rotate_left
       ·simp only [Act.put, List.setIfInBounds_toArray, List.set_cons_zero, List.set_cons_succ, i64_w, i32_w]
        rfl
       refine pure_ (i := 2) (N := some 34) (v := ?_) (a' := ?_) #[true, true, true, false, false, false, false, false, false, false, false, false, false, false, false, false, false, false] rfl rfl (any_of HT_.out (by kernel_rfl)) (fun _ _ _ h => h) (Or.inl ⟨by rfl, ?_⟩) ?_ ?_
       rotate_left
       ·intro w'
        go_simp
        with_reducible rfl
       rotate_left
       ·simp only [Act.put, List.setIfInBounds_toArray, List.set_cons_zero, List.set_cons_succ, i64_w, i32_w]
        rfl
       refine pure_ (i := 3) (N := some 35) (v := ?_) (a' := ?_) #[true, true, true, true, false, false, false, false, false, false, false, false, false, false, false, false, false, false] rfl rfl (any_of HT_.out (by kernel_rfl)) (fun _ _ _ h => h) (Or.inl ⟨by rfl, ?_⟩) ?_ ?_
       rotate_left
       ·intro w'
        go_simp
        with_reducible rfl
       rotate_left
       ·simp only [Act.put, List.setIfInBounds_toArray, List.set_cons_zero, List.set_cons_succ, i64_w, i32_w]
        rfl
       refine pure_ (i := 4) (N := some 36) (v := ?_) (a' := ?_) #[true, true, true, true, true, false, false, false, false, false, false, false, false, false, false, false, false, false] rfl rfl (any_of HT_.out (by kernel_rfl)) (fun _ _ _ h => h) (Or.inl ⟨by rfl, ?_⟩) ?_ ?_
       rotate_left
       ·intro w'
        go_simp
        with_reducible rfl
       rotate_left
       ·simp only [Act.put, List.setIfInBounds_toArray, List.set_cons_zero, List.set_cons_succ, i64_w, i32_w]
        rfl
       refine pure_ (i := 5) (N := some 37) (v := ?_) (a' := ?_) #[true, true, true, true, true, true, false, false, false, false, false, false, false, false, false, false, false, false] rfl rfl (any_of HT_.out (by kernel_rfl)) (fun _ _ _ h => h) (Or.inl ⟨by rfl, ?_⟩) ?_ ?_
       rotate_left
       ·intro w'
        go_simp
        with_reducible rfl
       rotate_left
       ·simp only [Act.put, List.setIfInBounds_toArray, List.set_cons_zero, List.set_cons_succ, i64_w, i32_w]
        rfl
       refine pure_ (i := 7) (N := some 39) (v := ?_) (a' := ?_) #[true, true, true, true, true, true, false, true, false, false, false, false, false, false, false, false, false, false] rfl rfl (any_of HT_.out (by kernel_rfl)) (fun _ _ _ h => h) (Or.inl ⟨by rfl, ?_⟩) ?_ ?_
       rotate_left
       ·intro w'
        go_simp
        with_reducible rfl
       rotate_left
       ·simp only [Act.put, List.setIfInBounds_toArray, List.set_cons_zero, List.set_cons_succ, i64_w, i32_w]
        rfl
       refine pure_ (i := 8) (N := some 40) (v := ?_) (a' := ?_) #[true, true, true, true, true, true, false, true, true, false, false, false, false, false, false, false, false, false] rfl rfl (any_of HT_.out (by kernel_rfl)) (fun _ _ _ h => h) (Or.inl ⟨by rfl, ?_⟩) ?_ ?_
       rotate_left
       ·intro w'
        go_simp
        with_reducible rfl
       rotate_left
       ·simp only [Act.put, List.setIfInBounds_toArray, List.set_cons_zero, List.set_cons_succ, i64_w, i32_w]
        rfl
       refine pure_ (i := 9) (N := some 41) (v := ?_) (a' := ?_) #[true, true, true, true, true, true, false, true, true, true, false, false, false, false, false, false, false, false] rfl rfl (any_of HT_.out (by kernel_rfl)) (fun _ _ _ h => h) (Or.inl ⟨by rfl, ?_⟩) ?_ ?_
       rotate_left
       ·intro w'
        go_simp
        with_reducible rfl
       rotate_left
       ·simp only [Act.put, List.setIfInBounds_toArray, List.set_cons_zero, List.set_cons_succ, i64_w, i32_w]
        rfl
       refine pure_ (i := 10) (N := some 42) (v := ?_) (a' := ?_) #[true, true, true, true, true, true, false, true, true, true, true, false, false, false, false, false, false, false] rfl rfl (any_of HT_.out (by kernel_rfl)) (fun _ _ _ h => h) (Or.inl ⟨by rfl, ?_⟩) ?_ ?_
       rotate_left
       ·intro w'
        go_simp
        with_reducible rfl
       rotate_left
       ·simp only [Act.put, List.setIfInBounds_toArray, List.set_cons_zero, List.set_cons_succ, i64_w, i32_w]
        rfl
       refine take_ (i := 6) (N := some 38) (v := ?_) (a' := ?_) #[true, true, true, true, true, true, true, true, true, true, true, false, false, false, false, false, false, false] rfl rfl (take_ofW HT_.out HW_.out (by kernel_rfl)) (fun _ _ _ h => h) (Or.inl ⟨by rfl, ?_⟩) hHeld ?_ ?_
       rotate_left
       ·rintro w' ⟨s0, s1, s2, s3, s4, s5, s6, s7, s8, s9, s10, s11⟩
        go_simp
        with_reducible rfl
       rotate_left
       ·simp only [Act.put, List.setIfInBounds_toArray, List.set_cons_zero, List.set_cons_succ, i64_w, i32_w]
        rfl
       refine take_ (i := 11) (N := some 43) (v := ?_) (a' := ?_) #[true, true, true, true, true, true, true, true, true, true, true, true, false, false, false, false, false, false] rfl rfl (take_ofW HT_.out HW_.out (by kernel_rfl)) (fun _ _ _ h => h) (Or.inl ⟨by rfl, ?_⟩) hHeld ?_ ?_
       rotate_left
       ·rintro w' ⟨s0, s1, s2, s3, s4, s5, s6, s7, s8, s9, s10, s11⟩
        go_simp
        with_reducible rfl
       rotate_left
       ·simp only [Act.put, List.setIfInBounds_toArray, List.set_cons_zero, List.set_cons_succ, i64_w, i32_w]
        rfl
       refine one_ (i := 12) (N := some 44) #[true, true, true, true, true, true, true, true, true, true, true, true, true, false, false, false, false, false] rfl rfl (one_of HT_.out (by kernel_rfl)) (by decide) (fun K hK => ?_)
       refine goes_ Try.func15 (by kernel_rfl) rfl #[.slice A0 l0.length c0, .int .i64 a1, .int .i64 ((rd_T33 t247 x10_1).f0), .agg #[.int .i64 ((rd_T33 t247 x10_1).f2.f0), .slice A251_3 ((rd_T33 t247 x10_1).f2.f1).length c251_3, .slice A251_4 ((rd_T33 t247 x10_1).f2.f2).length c251_4, .slice A251_5 ((rd_T33 t247 x10_1).f2.f3).length c251_5]] (by rfl) rfl rfl (by (try simp only [List.map_toArray, List.map_cons, List.map_nil]); first | done | rfl | (simp only [List.length_drop, List.length_take]; rfl)) ?_
       with_reducible refine (logbookref17_Items.calls k1 _ _ l0 a1 ((rd_T33 t247 x10_1).f0) ((rd_T33 t247 x10_1).f2.f0) _ _ ((rd_T33 t247 x10_1).f2.f1) _ _ ((rd_T33 t247 x10_1).f2.f2) _ _ ((rd_T33 t247 x10_1).f2.f3) t253 false _ ?side1 ?side2 ?side3 ?side4 ?side5 ?side6 ?side7 ?side8 A9.out).mono ?_
       (case side1 => repeat (first | exact (Kd.C_below HR0.out HB.out) | (with_reducible refine Kd.C_alloc ?_ _) | (with_reducible refine Kd.C_drewN ?_ _) | (with_reducible refine Kd.C_drew ?_)))
       (case side2 => exact HC0.out)
       (case side3 => repeat (first | exact (by repeat (first | (with_reducible exact HR252_3.out) | (with_reducible refine Kd.C_alloc ?_ _) | (with_reducible refine Kd.C_drewN ?_ _) | (with_reducible refine Kd.C_drew ?_) | exact HR252_3.out)) | (with_reducible refine Kd.C_alloc ?_ _) | (with_reducible refine Kd.C_drewN ?_ _) | (with_reducible refine Kd.C_drew ?_)))
       (case side4 => exact HC252_3.out)
       (case side5 => repeat (first | exact (by repeat (first | (with_reducible exact HR252_4.out) | (with_reducible refine Kd.C_alloc ?_ _) | (with_reducible refine Kd.C_drewN ?_ _) | (with_reducible refine Kd.C_drew ?_) | exact HR252_4.out)) | (with_reducible refine Kd.C_alloc ?_ _) | (with_reducible refine Kd.C_drewN ?_ _) | (with_reducible refine Kd.C_drew ?_)))
       (case side6 => exact HC252_4.out)
       (case side7 => repeat (first | exact (by repeat (first | (with_reducible exact HR252_5.out) | (with_reducible refine Kd.C_alloc ?_ _) | (with_reducible refine Kd.C_drewN ?_ _) | (with_reducible refine Kd.C_drew ?_) | exact HR252_5.out)) | (with_reducible refine Kd.C_alloc ?_ _) | (with_reducible refine Kd.C_drewN ?_ _) | (with_reducible refine Kd.C_drew ?_)))
       (case side8 => exact HC252_5.out)
       rintro e w24 ⟨v254, rfl, ho0, hb⟩
       have HS0_ := (hb.cell (World.block_lt_of_cell? _ _ (hHeld.1))).trans (hHeld.1)
       have HS1_ := (hb.cell (World.block_lt_of_cell? _ _ (hHeld.2.1))).trans (hHeld.2.1)
       have HS2_ := (hb.cell (World.block_lt_of_cell? _ _ (hHeld.2.2.1))).trans (hHeld.2.2.1)
       have HS3_ := (hb.cell (World.block_lt_of_cell? _ _ (hHeld.2.2.2.1))).trans (hHeld.2.2.2.1)
       have HS4_ := (hb.cell (World.block_lt_of_cell? _ _ (hHeld.2.2.2.2.1))).trans (hHeld.2.2.2.2.1)
       have HS5_ := (hb.cell (World.block_lt_of_cell? _ _ (hHeld.2.2.2.2.2.1))).trans (hHeld.2.2.2.2.2.1)
       have HS6_ := (hb.cell (World.block_lt_of_cell? _ _ (hHeld.2.2.2.2.2.2.1))).trans (hHeld.2.2.2.2.2.2.1)
       have HS7_ := (hb.cell (World.block_lt_of_cell? _ _ (hHeld.2.2.2.2.2.2.2.1))).trans (hHeld.2.2.2.2.2.2.2.1)
       have HS8_ := (hb.cell (World.block_lt_of_cell? _ _ (hHeld.2.2.2.2.2.2.2.2.1))).trans (hHeld.2.2.2.2.2.2.2.2.1)
       have HS9_ := (hb.cell (World.block_lt_of_cell? _ _ (hHeld.2.2.2.2.2.2.2.2.2.1))).trans (hHeld.2.2.2.2.2.2.2.2.2.1)
       have HS10_ := (hb.cell (World.block_lt_of_cell? _ _ (hHeld.2.2.2.2.2.2.2.2.2.2.1))).trans (hHeld.2.2.2.2.2.2.2.2.2.2.1)
       have HS11_ := (hb.cell (World.block_lt_of_cell? _ _ (hHeld.2.2.2.2.2.2.2.2.2.2.2))).trans (hHeld.2.2.2.2.2.2.2.2.2.2.2)
       refine ⟨_, rfl, ?_⟩
       have n0_ := Aside0.mk (Kd.S_elder' (by (with_reducible repeat (first | apply Kd.S_alloc | apply Kd.S_drewN | apply Kd.S_drew)); exact HO_8.out) (Kd.R_base ho0) hb)
       have n1_ := Aside0.mk (Kd.S_below (by (with_reducible repeat (first | apply Kd.S_alloc | apply Kd.S_drewN | apply Kd.S_drew)); exact HO_9.out) hb)
       have n2_ := Aside0.mk (Kd.R_below (by (with_reducible repeat (first | apply Kd.R_alloc | apply Kd.R_drewN | apply Kd.R_drew)); exact HL250_3.out) hb)
       have n3_ := Aside0.mk (Kd.R_below (by (with_reducible repeat (first | apply Kd.R_alloc | apply Kd.R_drewN | apply Kd.R_drew)); exact HL250_4.out) hb)
       have n4_ := Aside0.mk (Kd.R_below (by (with_reducible repeat (first | apply Kd.R_alloc | apply Kd.R_drewN | apply Kd.R_drew)); exact HL250_5.out) hb)
       have n5_ := Aside0.mk (Kd.R_below (by (with_reducible repeat (first | apply Kd.R_alloc | apply Kd.R_drewN | apply Kd.R_drew)); exact HL251_3.out) hb)
       have n6_ := Aside0.mk (Kd.R_below (by (with_reducible repeat (first | apply Kd.R_alloc | apply Kd.R_drewN | apply Kd.R_drew)); exact HL251_4.out) hb)
       have n7_ := Aside0.mk (Kd.R_below (by (with_reducible repeat (first | apply Kd.R_alloc | apply Kd.R_drewN | apply Kd.R_drew)); exact HL251_5.out) hb)
       have n8_ := Aside0.mk (Kd.R_below (by (with_reducible repeat (first | apply Kd.R_alloc | apply Kd.R_drewN | apply Kd.R_drew)); exact HL252_3.out) hb)
       have n9_ := Aside0.mk (Kd.R_below (by (with_reducible repeat (first | apply Kd.R_alloc | apply Kd.R_drewN | apply Kd.R_drew)); exact HL252_4.out) hb)
       have n10_ := Aside0.mk (Kd.R_below (by (with_reducible repeat (first | apply Kd.R_alloc | apply Kd.R_drewN | apply Kd.R_drew)); exact HL252_5.out) hb)
       have n11_ := Aside0.mk (Kd.R_lower ho0 (below_size (by repeat (first | (with_reducible first | exact HB.out | apply below_alloc | apply pw_below_drewN | apply below_drew1) | exact HB.out))))
       have n12_ := Aside0.mk (Kd.C_below (by repeat (first | (with_reducible exact HR250_3.out) | (with_reducible refine Kd.C_alloc ?_ _) | (with_reducible refine Kd.C_drewN ?_ _) | (with_reducible refine Kd.C_drew ?_) | exact HR250_3.out)) hb)
       have n13_ := Aside0.mk (Kd.C_below (by repeat (first | (with_reducible exact HR250_4.out) | (with_reducible refine Kd.C_alloc ?_ _) | (with_reducible refine Kd.C_drewN ?_ _) | (with_reducible refine Kd.C_drew ?_) | exact HR250_4.out)) hb)
       have n14_ := Aside0.mk (Kd.C_below (by repeat (first | (with_reducible exact HR250_5.out) | (with_reducible refine Kd.C_alloc ?_ _) | (with_reducible refine Kd.C_drewN ?_ _) | (with_reducible refine Kd.C_drew ?_) | exact HR250_5.out)) hb)
       have n15_ := Aside0.mk (Kd.C_below (by repeat (first | (with_reducible exact HR251_3.out) | (with_reducible refine Kd.C_alloc ?_ _) | (with_reducible refine Kd.C_drewN ?_ _) | (with_reducible refine Kd.C_drew ?_) | exact HR251_3.out)) hb)
       have n16_ := Aside0.mk (Kd.C_below (by repeat (first | (with_reducible exact HR251_4.out) | (with_reducible refine Kd.C_alloc ?_ _) | (with_reducible refine Kd.C_drewN ?_ _) | (with_reducible refine Kd.C_drew ?_) | exact HR251_4.out)) hb)
       have n17_ := Aside0.mk (Kd.C_below (by repeat (first | (with_reducible exact HR251_5.out) | (with_reducible refine Kd.C_alloc ?_ _) | (with_reducible refine Kd.C_drewN ?_ _) | (with_reducible refine Kd.C_drew ?_) | exact HR251_5.out)) hb)
       have n18_ := Aside0.mk (Kd.C_below (by repeat (first | (with_reducible exact HR252_3.out) | (with_reducible refine Kd.C_alloc ?_ _) | (with_reducible refine Kd.C_drewN ?_ _) | (with_reducible refine Kd.C_drew ?_) | exact HR252_3.out)) hb)
       have n19_ := Aside0.mk (Kd.C_below (by repeat (first | (with_reducible exact HR252_4.out) | (with_reducible refine Kd.C_alloc ?_ _) | (with_reducible refine Kd.C_drewN ?_ _) | (with_reducible refine Kd.C_drew ?_) | exact HR252_4.out)) hb)
       have n20_ := Aside0.mk (Kd.C_below (by repeat (first | (with_reducible exact HR252_5.out) | (with_reducible refine Kd.C_alloc ?_ _) | (with_reducible refine Kd.C_drewN ?_ _) | (with_reducible refine Kd.C_drew ?_) | exact HR252_5.out)) hb)
       have n21_ := Aside0.mk (below_step (by repeat (first | (with_reducible first | exact HB.out | apply below_alloc | apply pw_below_drewN | apply below_drew1) | exact HB.out)) hb)
       clear HO_8
       clear HO_9
       clear HL250_3
       clear HL250_4
       clear HL250_5
       clear HL251_3
       clear HL251_4
       clear HL251_5
       clear HL252_3
       clear HL252_4
       clear HL252_5
       clear HR250_3
       clear HR250_4
       clear HR250_5
       clear HR251_3
       clear HR251_4
       clear HR251_5
       clear HR252_3
       clear HR252_4
       clear HR252_5
       clear HB
       have HO_8 := n0_
       have HO_9 := n1_
       have HL250_3 := n2_
       have HL250_4 := n3_
       have HL250_5 := n4_
       have HL251_3 := n5_
       have HL251_4 := n6_
       have HL251_5 := n7_
       have HL252_3 := n8_
       have HL252_4 := n9_
       have HL252_5 := n10_
       have HO255 := n11_
       have HR250_3 := n12_
       have HR250_4 := n13_
       have HR250_5 := n14_
       have HR251_3 := n15_
       have HR251_4 := n16_
       have HR251_5 := n17_
       have HR252_3 := n18_
       have HR252_4 := n19_
       have HR252_5 := n20_
       have HB := n21_
       clear n0_ n1_ n2_ n3_ n4_ n5_ n6_ n7_ n8_ n9_ n10_ n11_ n12_ n13_ n14_ n15_ n16_ n17_ n18_ n19_ n20_ n21_
       (try clear hb)
       (try clear hb2)
       (try clear hk)
       (try clear hi)
       (try clear ho0)
       refine hK.out _ _ ⟨HS0_, HS1_, HS2_, HS3_, HS4_, HS5_, HS6_, HS7_, HS8_, HS9_, HS10_, HS11_⟩ (fun hHeld => ?_)
       clear hK K
       refine norm_ (a' := ?_) ?_ ?_
       rotate_left
       ·show Act.put _ (some 44) _ = _
        simp only [Act.put, List.setIfInBounds_toArray, List.set_cons_zero, List.set_cons_succ, i64_w, i32_w]
        rfl
       refine pure_ (i := 13) (N := some 31) (v := ?_) (a' := ?_) #[true, true, true, true, true, true, true, true, true, true, true, true, true, true, false, false, false, false] rfl rfl (any_of HT_.out (by kernel_rfl)) (fun _ _ _ h => h) (Or.inl ⟨by rfl, ?_⟩) ?_ ?_
       rotate_left
       ·intro w'
        go_simp
        with_reducible rfl
       rotate_left
       ·simp only [Act.put, List.setIfInBounds_toArray, List.set_cons_zero, List.set_cons_succ, i64_w, i32_w]
        rfl
       refine pure_ (i := 14) (N := some 45) (v := ?_) (a' := ?_) #[true, true, true, true, true, true, true, true, true, true, true, true, true, true, true, false, false, false] rfl rfl (any_of HT_.out (by kernel_rfl)) (fun _ _ _ h => h) (Or.inl ⟨by rfl, ?_⟩) ?_ ?_
       rotate_left
       ·intro w'
        go_simp
        with_reducible rfl
       rotate_left
       ·simp only [Act.put, List.setIfInBounds_toArray, List.set_cons_zero, List.set_cons_succ, i64_w, i32_w]
        rfl
       refine pure_ (i := 15) (N := some 46) (v := ?_) (a' := ?_) #[true, true, true, true, true, true, true, true, true, true, true, true, true, true, true, true, false, false] rfl rfl (any_of HT_.out (by kernel_rfl)) (fun _ _ _ h => h) (Or.inl ⟨by rfl, ?_⟩) ?_ ?_
       rotate_left
       ·intro w'
        go_simp
        with_reducible rfl
       rotate_left
       ·simp only [Act.put, List.setIfInBounds_toArray, List.set_cons_zero, List.set_cons_succ, i64_w, i32_w]
        rfl
       refine pure_ (i := 16) (N := some 11) (v := ?_) (a' := ?_) #[true, true, true, true, true, true, true, true, true, true, true, true, true, true, true, true, true, false] rfl rfl (any_of HT_.out (by kernel_rfl)) (fun _ _ _ h => h) (Or.inl ⟨by rfl, ?_⟩) ?_ ?_
       rotate_left
       ·intro w'
        go_simp
        with_reducible rfl
       rotate_left
       ·simp only [Act.put, List.setIfInBounds_toArray, List.set_cons_zero, List.set_cons_succ, i64_w, i32_w]
        rfl
       refine pure_ (i := 17) (N := some 12) (v := ?_) (a' := ?_) #[true, true, true, true, true, true, true, true, true, true, true, true, true, true, true, true, true, true] rfl rfl (any_of HT_.out (by kernel_rfl)) (fun _ _ _ h => h) (Or.inl ⟨by rfl, ?_⟩) ?_ ?_
       rotate_left
       ·intro w'
        go_simp
        with_reducible rfl
       rotate_left
       ·simp only [Act.put, List.setIfInBounds_toArray, List.set_cons_zero, List.set_cons_succ, i64_w, i32_w]
        rfl
       refine done_ (done_of HT_.out (by kernel_rfl)) ?_
       try go_wp2
       go_ret2
       exact ⟨_, by first | rfl | (simp [errW_none, errW_some] <;> rfl) | (simp [*, errW_none, errW_some] <;> rfl), by first | exact Kd.S_nil _ _ _ _ _ | exact Kd.N_nil _ _ _ _ _ | exact Kd.V_nil _ _ _ _ _ | exact Kd.Q_nil _ _ _ _ _ | exact Kd.R_nil _ _ _ _ _, by repeat (first | (with_reducible first | exact HB.out | apply below_alloc | apply pw_below_drewN | apply below_drew1) | exact HB.out)⟩
     ·rw [if_neg c8] at H
      have c8b0 : (((rd_T33 t247 x10_1).f2.f0) == 3) = false := beq_eq_false_iff_ne.mpr c8
      have c8b1 : (((rd_T33 t247 x10_1).f2.f0) != 3) = true := bne_iff_ne.mpr c8
      have H' := Aside0.mk H
      clear H
      obtain ⟨Ao25, co25, eo25⟩ := Kd.S_slice HO_9.out
      subst eo25
      have p250 : 0 ≤ (x10_1 : Int) := of_decide_eq_true (by first | (with_reducible assumption) | assumption)
      have q250 : x10_1 < (t247.length : Int) := of_decide_eq_true (by first | (with_reducible assumption) | assumption)
      try (obtain ⟨Az_, cz_, ez_⟩ := Kd.S_slice HO_9.out; subst ez_)
      obtain ⟨ad250, A250_3, c250_3, A250_4, c250_4, A250_5, c250_5, e250, hx250_0, hx250_1, hx250_2, hx250_3, hx250_4, hx250_5, hl250_3, hi250_3, hl250_4, hi250_4, hl250_5, hi250_5⟩ := at_T33 (Kd.S_reads' HO_9.out).2.2 x10_1 p250 q250
      cases e250
      obtain ⟨ce250, hce250, hMe250, hcc250⟩ := Kd.S_get HO_9.out z33 x10_1 p250 (by first | exact q250 | exact of_decide_eq_true (by first | (with_reducible assumption) | assumption) | (have e_ := (Kd.S_reads' HO_9.out).1; omega))
      obtain ⟨ve250_3, ve250_4, ve250_5, rfl, ge250_3, ge250_4, ge250_5⟩ := k33_openM hMe250
      have hv250_3 := hcc250 3 _ rfl
      rw [add_field _ _ 3 (by omega)] at hv250_3
      replace hv250_3 := Option.some.inj (hv250_3.symm.trans hx250_3)
      rw [hv250_3] at ge250_3
      have HL250_3 := Aside0.mk (show Kd.R (Kd.int .u64) 47 _ _ _ _ ((rd_T33 t247 x10_1).f2.f1) from ge250_3)
      clear hv250_3 ge250_3
      have hv250_4 := hcc250 4 _ rfl
      rw [add_field _ _ 4 (by omega)] at hv250_4
      replace hv250_4 := Option.some.inj (hv250_4.symm.trans hx250_4)
      rw [hv250_4] at ge250_4
      have HL250_4 := Aside0.mk (show Kd.R (Kd.int .u8) 5 _ _ _ _ ((rd_T33 t247 x10_1).f2.f2) from ge250_4)
      clear hv250_4 ge250_4
      have hv250_5 := hcc250 5 _ rfl
      rw [add_field _ _ 5 (by omega)] at hv250_5
      replace hv250_5 := Option.some.inj (hv250_5.symm.trans hx250_5)
      rw [hv250_5] at ge250_5
      have HL250_5 := Aside0.mk (show Kd.R (Kd.int .u64) 47 _ _ _ _ ((rd_T33 t247 x10_1).f2.f3) from ge250_5)
      clear hv250_5 ge250_5
      clear hcc250 hce250
      have HR250_3 := Aside0.mk hi250_3
      have HC250_3 := Aside0.mk hl250_3
      clear hi250_3 hl250_3
      have HR250_4 := Aside0.mk hi250_4
      have HC250_4 := Aside0.mk hl250_4
      clear hi250_4 hl250_4
      have HR250_5 := Aside0.mk hi250_5
      have HC250_5 := Aside0.mk hl250_5
      clear hi250_5 hl250_5
      replace p250 := eq_true p250
      replace q250 := eq_true q250
      (try (have ea_ := Option.some.inj (HS3_.symm.trans hx250_3); injection ea_ with ea_ en_ ec_; subst ea_; subst ec_; clear en_))
      (try (have ea_ := Option.some.inj (HS4_.symm.trans hx250_4); injection ea_ with ea_ en_ ec_; subst ea_; subst ec_; clear en_))
      (try (have ea_ := Option.some.inj (HS5_.symm.trans hx250_5); injection ea_ with ea_ en_ ec_; subst ea_; subst ec_; clear en_))
      go_wp2
      go_roundg k1
      case measure => have := HK1.out; omega
      case rel => exact ⟨(x8_1), (wrap64 (x10_1 + 1)), (by first | rfl | (simp; done) | (simp [*]; done) | exact isEmpty_bne _), H', ⟨by have := HK1.out; omega⟩, ⟨by (with_reducible repeat (first | apply Kd.S_alloc | apply Kd.S_drewN | apply Kd.S_drew)); exact HO_8.out⟩, ⟨by (with_reducible repeat (first | apply Kd.S_alloc | apply Kd.S_drewN | apply Kd.S_drew)); exact HO_9.out⟩, ⟨by repeat (first | (with_reducible first | exact HB.out | apply below_alloc | apply pw_below_drewN | apply below_drew1) | exact HB.out)⟩⟩
    ·rw [if_neg c7] at H
     exact absurd H (by simp)
   ·rw [if_neg c6] at H
    have c6b0 : decide (x10_1 < (t247.length : Int)) = false := decide_eq_false c6
    clear c6
    simp only [Option.some.injEq, Prod.mk.injEq] at H
    obtain ⟨rfl, rfl⟩ := H
    obtain ⟨Ao26, co26, eo26⟩ := Kd.S_slice HO_9.out
    subst eo26
    go_wp2
    go_ret2
    exact ⟨_, by first | rfl | (simp [errW_none, errW_some] <;> rfl) | (simp [*, errW_none, errW_some] <;> rfl), by (with_reducible repeat (first | apply Kd.S_alloc | apply Kd.S_drewN | apply Kd.S_drew)); exact HO_8.out, by repeat (first | (with_reducible first | exact HB.out | apply below_alloc | apply pw_below_drewN | apply below_drew1) | exact HB.out)⟩

end Go.Proofs.Ytldoaommikclbaa.PScanEntries
