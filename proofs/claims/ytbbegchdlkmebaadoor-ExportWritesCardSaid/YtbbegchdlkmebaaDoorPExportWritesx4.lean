-- LAID BY gprint.py: a scratch copy of the print, with functions that this session proved by hand among the printed ones
import Derived.Test.YtbbegchdlkmebaaDoorPExportWritesx0
import Derived.Test.YtbbegchdlkmebaaDoorPExportWritesx3
namespace Go.Proofs.YtbbegchdlkmebaaDoor.PExportWrites
open Go.RowKit Go.Proofs.YtbbegchdlkmebaaDoorW.PrintWords Go.Proofs.YtbbegchdlkmebaaDoorW.PrintLast Go.Proofs.YtbbegchdlkmebaaDoor.Conv Go.Proofs.YtbbegchdlkmebaaDoor.Bld Go.Proofs.YtbbegchdlkmebaaDoorW.PrintMore
attribute [local go_sem] max2_int min2_int max_two min_two max_three min_three max_four min_four gtr_less   -- for this text's walks alone
set_option linter.unusedVariables false
set_option linter.unusedSimpArgs false

/-! ### logbookref32_printable: function 23 -/
def logbookref32_printable.l0 : Nat → ByteArray → Int → Option (Bool)
  | 0, _, _ => none
  | k + 1, x0, x3 => if x3 < (x0.size : Int) then (if 0 ≤ x3 then (if (bt x0 x3) < 32 then (if (bt x0 x3) = 9 then (if (bt x0 x3) = 127 then (some false) else (logbookref32_printable.l0 k x0 (wrap64 (x3 + 1)))) else (some false)) else (if (bt x0 x3) = 127 then (some false) else (logbookref32_printable.l0 k x0 (wrap64 (x3 + 1))))) else (none)) else (some true)
def logbookref32_printable.f (k : Nat) (a0 : ByteArray) : Option (Bool) := logbookref32_printable.l0 k a0 0
theorem logbookref32_printable.mono_l : ∀ k, (∀ y0 y1, LeO (logbookref32_printable.l0 k y0 y1) (logbookref32_printable.l0 (k + 1) y0 y1))
  | 0 => fun _ _ r h => by simp [logbookref32_printable.l0] at h
  | k + 1 => by
    have ih0 := logbookref32_printable.mono_l k
    · intro y0 y1
      unfold logbookref32_printable.l0
      repeat' first
      | (with_reducible exact ih0 _ _)
      | (with_reducible exact LeO.refl _)
      | (with_reducible exact LeO.none _)
      | (with_reducible refine LeO.ite ?_ ?_)
      | (with_reducible refine LeO.bind ?_ (fun _ => ?_))
      | exact ih0 _ _
      | exact LeO.none _
      | refine LeO.ite ?_ ?_
      | refine LeO.bind ?_ (fun _ => ?_)
theorem logbookref32_printable.mono : ∀ a0 k, LeO (logbookref32_printable.f k a0) (logbookref32_printable.f (k + 1) a0) := by
  intro a0 k
  have ih0 := logbookref32_printable.mono_l k
  unfold logbookref32_printable.f
  repeat' first
      | (with_reducible exact ih0 _ _)
      | (with_reducible exact LeO.refl _)
      | (with_reducible exact LeO.none _)
      | (with_reducible refine LeO.ite ?_ ?_)
      | (with_reducible refine LeO.bind ?_ (fun _ => ?_))
      | exact ih0 _ _
      | exact LeO.none _
      | refine LeO.ite ?_ ?_
      | refine LeO.bind ?_ (fun _ => ?_)
set_option maxHeartbeats 8000000 in
set_option maxRecDepth 100000 in
theorem logbookref32_printable.calls (k : Nat) (a0 : ByteArray) (r : Bool) (w : World) (h : logbookref32_printable.f k a0 = some r) :
    Calls Tryd.prog 23 #[.string a0] w fun e w' => e = .returned (.bool r) ∧ Drawn0 w w' := by
  have H : (logbookref32_printable.l0 k a0 0) = some r := h
  clear h
  have H' := Aside0.mk H
  clear H
  go_enter Tryd.func23, Tryd.ntmps23
  go_wp2
  go_loopg [3] k (fun kq v3 w' => ∃ (x3_1 : Int), v3 = .int .i64 x3_1 ∧ Aside0 (logbookref32_printable.l0 kq a0 x3_1 = some r) ∧ Aside0 (kq ≤ k) ∧ Drawn0 w w')
  case atStart => exact ⟨(0), (by first | rfl | (simp; done) | (simp [*]; done) | exact isEmpty_bne _), H', ⟨Nat.le_refl _⟩, by repeat (first | exact Drawn0.refl _ | apply Drawn0.step)⟩
  case round =>
    clear H'
    obtain ⟨x3_1, rfl, HA, HK1, ⟨m1, rfl⟩⟩ := hrel
    cases gk with
    | zero => exact absurd HA.out (by simp [logbookref32_printable.l0])
    | succ k1 =>
      have H := HA.out
      clear HA
      simp only [logbookref32_printable.l0] at H
      by_cases c2 : x3_1 < (a0.size : Int)
      · rw [if_pos c2] at H
        have c2b0 : decide (x3_1 < (a0.size : Int)) = true := decide_eq_true c2
        clear c2
        by_cases c3 : 0 ≤ x3_1
        · rw [if_pos c3] at H
          have c3b0 : decide (0 ≤ x3_1) = true := decide_eq_true c3
          clear c3
          by_cases c5 : (bt a0 x3_1) < 32
          · rw [if_pos c5] at H
            have c5b0 : decide ((bt a0 x3_1) < 32) = true := decide_eq_true c5
            clear c5
            by_cases c7 : (bt a0 x3_1) = 9
            · rw [if_pos c7] at H
              have c7b0 : ((bt a0 x3_1) == 9) = true := beq_iff_eq.mpr c7
              have c7b1 : ((bt a0 x3_1) != 9) = false := bne_eq_false_iff_eq.mpr c7
              clear c7
              by_cases c9 : (bt a0 x3_1) = 127
              · rw [if_pos c9] at H
                have c9b0 : ((bt a0 x3_1) == 127) = true := beq_iff_eq.mpr c9
                have c9b1 : ((bt a0 x3_1) != 127) = false := bne_eq_false_iff_eq.mpr c9
                clear c9
                obtain rfl := Option.some.inj H
                have p4 : 0 ≤ (x3_1 : Int) := of_decide_eq_true (by first | (with_reducible assumption) | assumption)
                have q4 : x3_1 < (a0.size : Int) := of_decide_eq_true (by first | (with_reducible assumption) | assumption)
                have hx4 := bt_at a0 x3_1
                replace p4 := eq_true p4
                replace q4 := eq_true q4
                have p6 : 0 ≤ (x3_1 : Int) := of_decide_eq_true (by first | (with_reducible assumption) | assumption)
                have q6 : x3_1 < (a0.size : Int) := of_decide_eq_true (by first | (with_reducible assumption) | assumption)
                have hx6 := bt_at a0 x3_1
                replace p6 := eq_true p6
                replace q6 := eq_true q6
                have p8 : 0 ≤ (x3_1 : Int) := of_decide_eq_true (by first | (with_reducible assumption) | assumption)
                have q8 : x3_1 < (a0.size : Int) := of_decide_eq_true (by first | (with_reducible assumption) | assumption)
                have hx8 := bt_at a0 x3_1
                replace p8 := eq_true p8
                replace q8 := eq_true q8
                go_wp2
                go_ret
                exact ⟨by first | rfl | (simp; done) | (simp [*]; done) | exact isEmpty_bne _, by repeat (first | exact Drawn0.refl _ | apply Drawn0.step)⟩
              · rw [if_neg c9] at H
                have c9b0 : ((bt a0 x3_1) == 127) = false := beq_eq_false_iff_ne.mpr c9
                have c9b1 : ((bt a0 x3_1) != 127) = true := bne_iff_ne.mpr c9
                have H' := Aside0.mk H
                clear H
                have p4 : 0 ≤ (x3_1 : Int) := of_decide_eq_true (by first | (with_reducible assumption) | assumption)
                have q4 : x3_1 < (a0.size : Int) := of_decide_eq_true (by first | (with_reducible assumption) | assumption)
                have hx4 := bt_at a0 x3_1
                replace p4 := eq_true p4
                replace q4 := eq_true q4
                have p6 : 0 ≤ (x3_1 : Int) := of_decide_eq_true (by first | (with_reducible assumption) | assumption)
                have q6 : x3_1 < (a0.size : Int) := of_decide_eq_true (by first | (with_reducible assumption) | assumption)
                have hx6 := bt_at a0 x3_1
                replace p6 := eq_true p6
                replace q6 := eq_true q6
                have p8 : 0 ≤ (x3_1 : Int) := of_decide_eq_true (by first | (with_reducible assumption) | assumption)
                have q8 : x3_1 < (a0.size : Int) := of_decide_eq_true (by first | (with_reducible assumption) | assumption)
                have hx8 := bt_at a0 x3_1
                replace p8 := eq_true p8
                replace q8 := eq_true q8
                go_wp2
                go_roundg k1
                case measure => have := HK1.out; omega
                case rel => exact ⟨(wrap64 (x3_1 + 1)), (by first | rfl | (simp; done) | (simp [*]; done) | exact isEmpty_bne _), H', ⟨by have := HK1.out; omega⟩, by repeat (first | exact Drawn0.refl _ | apply Drawn0.step)⟩
            · rw [if_neg c7] at H
              have c7b0 : ((bt a0 x3_1) == 9) = false := beq_eq_false_iff_ne.mpr c7
              have c7b1 : ((bt a0 x3_1) != 9) = true := bne_iff_ne.mpr c7
              obtain rfl := Option.some.inj H
              have p4 : 0 ≤ (x3_1 : Int) := of_decide_eq_true (by first | (with_reducible assumption) | assumption)
              have q4 : x3_1 < (a0.size : Int) := of_decide_eq_true (by first | (with_reducible assumption) | assumption)
              have hx4 := bt_at a0 x3_1
              replace p4 := eq_true p4
              replace q4 := eq_true q4
              have p6 : 0 ≤ (x3_1 : Int) := of_decide_eq_true (by first | (with_reducible assumption) | assumption)
              have q6 : x3_1 < (a0.size : Int) := of_decide_eq_true (by first | (with_reducible assumption) | assumption)
              have hx6 := bt_at a0 x3_1
              replace p6 := eq_true p6
              replace q6 := eq_true q6
              go_wp2
              go_ret
              exact ⟨by first | rfl | (simp; done) | (simp [*]; done) | exact isEmpty_bne _, by repeat (first | exact Drawn0.refl _ | apply Drawn0.step)⟩
          · rw [if_neg c5] at H
            have c5b0 : decide ((bt a0 x3_1) < 32) = false := decide_eq_false c5
            clear c5
            by_cases c11 : (bt a0 x3_1) = 127
            · rw [if_pos c11] at H
              have c11b0 : ((bt a0 x3_1) == 127) = true := beq_iff_eq.mpr c11
              have c11b1 : ((bt a0 x3_1) != 127) = false := bne_eq_false_iff_eq.mpr c11
              clear c11
              obtain rfl := Option.some.inj H
              have p4 : 0 ≤ (x3_1 : Int) := of_decide_eq_true (by first | (with_reducible assumption) | assumption)
              have q4 : x3_1 < (a0.size : Int) := of_decide_eq_true (by first | (with_reducible assumption) | assumption)
              have hx4 := bt_at a0 x3_1
              replace p4 := eq_true p4
              replace q4 := eq_true q4
              have p10 : 0 ≤ (x3_1 : Int) := of_decide_eq_true (by first | (with_reducible assumption) | assumption)
              have q10 : x3_1 < (a0.size : Int) := of_decide_eq_true (by first | (with_reducible assumption) | assumption)
              have hx10 := bt_at a0 x3_1
              replace p10 := eq_true p10
              replace q10 := eq_true q10
              go_wp2
              go_ret
              exact ⟨by first | rfl | (simp; done) | (simp [*]; done) | exact isEmpty_bne _, by repeat (first | exact Drawn0.refl _ | apply Drawn0.step)⟩
            · rw [if_neg c11] at H
              have c11b0 : ((bt a0 x3_1) == 127) = false := beq_eq_false_iff_ne.mpr c11
              have c11b1 : ((bt a0 x3_1) != 127) = true := bne_iff_ne.mpr c11
              have H' := Aside0.mk H
              clear H
              have p4 : 0 ≤ (x3_1 : Int) := of_decide_eq_true (by first | (with_reducible assumption) | assumption)
              have q4 : x3_1 < (a0.size : Int) := of_decide_eq_true (by first | (with_reducible assumption) | assumption)
              have hx4 := bt_at a0 x3_1
              replace p4 := eq_true p4
              replace q4 := eq_true q4
              have p10 : 0 ≤ (x3_1 : Int) := of_decide_eq_true (by first | (with_reducible assumption) | assumption)
              have q10 : x3_1 < (a0.size : Int) := of_decide_eq_true (by first | (with_reducible assumption) | assumption)
              have hx10 := bt_at a0 x3_1
              replace p10 := eq_true p10
              replace q10 := eq_true q10
              go_wp2
              go_roundg k1
              case measure => have := HK1.out; omega
              case rel => exact ⟨(wrap64 (x3_1 + 1)), (by first | rfl | (simp; done) | (simp [*]; done) | exact isEmpty_bne _), H', ⟨by have := HK1.out; omega⟩, by repeat (first | exact Drawn0.refl _ | apply Drawn0.step)⟩
        · rw [if_neg c3] at H
          exact absurd H (by simp)
      · rw [if_neg c2] at H
        have c2b0 : decide (x3_1 < (a0.size : Int)) = false := decide_eq_false c2
        clear c2
        obtain rfl := Option.some.inj H
        go_wp2
        go_ret
        exact ⟨by first | rfl | (simp; done) | (simp [*]; done) | exact isEmpty_bne _, by repeat (first | exact Drawn0.refl _ | apply Drawn0.step)⟩

/-! ### logbookref01_Bytes: function 24 -/
def logbookref01_Bytes.l0 : Nat → Int → Int → List Int → Int → Option (List Int)
  | 0, _, _, _, _ => none
  | k + 1, x0, x1, x5, x6 => if x6 < x1 then (if x6 < 8 then (if x5.length < 140737488355328 then (logbookref01_Bytes.l0 k (IntKind.u64.wrap (Int.tdiv x0 256)) x1 (x5 ++ [(Int.tmod x0 256) % 256]) (wrap64 (x6 + 1))) else (none)) else (some x5)) else (some x5)
def logbookref01_Bytes.f (k : Nat) (a0 : Int) (a1 : Int) : Option (List Int) := logbookref01_Bytes.l0 k a0 a1 ([] : List Int) 0
theorem logbookref01_Bytes.mono_l : ∀ k, (∀ y0 y1 y2 y3, LeO (logbookref01_Bytes.l0 k y0 y1 y2 y3) (logbookref01_Bytes.l0 (k + 1) y0 y1 y2 y3))
  | 0 => fun _ _ _ _ r h => by simp [logbookref01_Bytes.l0] at h
  | k + 1 => by
    have ih0 := logbookref01_Bytes.mono_l k
    · intro y0 y1 y2 y3
      unfold logbookref01_Bytes.l0
      repeat' first
      | (with_reducible exact ih0 _ _ _ _)
      | (with_reducible exact LeO.refl _)
      | (with_reducible exact LeO.none _)
      | (with_reducible refine LeO.ite ?_ ?_)
      | (with_reducible refine LeO.bind ?_ (fun _ => ?_))
      | exact ih0 _ _ _ _
      | exact LeO.none _
      | refine LeO.ite ?_ ?_
      | refine LeO.bind ?_ (fun _ => ?_)
theorem logbookref01_Bytes.mono : ∀ a0 a1 k, LeO (logbookref01_Bytes.f k a0 a1) (logbookref01_Bytes.f (k + 1) a0 a1) := by
  intro a0 a1 k
  have ih0 := logbookref01_Bytes.mono_l k
  unfold logbookref01_Bytes.f
  repeat' first
      | (with_reducible exact ih0 _ _ _ _)
      | (with_reducible exact LeO.refl _)
      | (with_reducible exact LeO.none _)
      | (with_reducible refine LeO.ite ?_ ?_)
      | (with_reducible refine LeO.bind ?_ (fun _ => ?_))
      | exact ih0 _ _ _ _
      | exact LeO.none _
      | refine LeO.ite ?_ ?_
      | refine LeO.bind ?_ (fun _ => ?_)
set_option maxHeartbeats 8000000 in
set_option maxRecDepth 100000 in
theorem logbookref01_Bytes.calls (k : Nat) (a0 : Int) (a1 : Int) (r : List Int) (w : World) (h : logbookref01_Bytes.f k a0 a1 = some r) :
    Calls Tryd.prog 24 #[.int .u64 a0, .int .i64 a1] w fun e w' => ∃ v0_ : Value, e = .returned (v0_) ∧ Kd.R (Kd.int .u8) 5 w' w.heap.size (fun _ => True) v0_ r ∧ Below w.heap.size w w' := by
  have HB := Aside0.mk (Below.refl w.heap.size w)
  have H : (logbookref01_Bytes.l0 k a0 a1 ([] : List Int) 0) = some r := h
  clear h
  have H' := Aside0.mk H
  clear H
  go_enter Tryd.func24, Tryd.ntmps24
  go_wp2
  go_loopg [0, 5, 6] k (fun kq v0 v5 v6 w' => ∃ (x0_1 : Int) (x5_1 : List Int) (x6_1 : Int), v0 = .int .u64 x0_1 ∧ v6 = .int .i64 x6_1 ∧ Aside0 (logbookref01_Bytes.l0 kq x0_1 a1 x5_1 x6_1 = some r) ∧ Aside0 (kq ≤ k) ∧ Aside0 (Kd.R (Kd.int .u8) 5 w' w.heap.size (fun _ => True) v5 x5_1) ∧ Aside0 (Below w.heap.size w w'))
  case atStart => exact ⟨(a0), (([] : List Int)), (0), (by first | rfl | (simp; done) | (simp [*]; done) | exact isEmpty_bne _), (by first | rfl | (simp; done) | (simp [*]; done) | exact isEmpty_bne _), H', ⟨Nat.le_refl _⟩, ⟨by first | exact Kd.R_nil _ _ _ _ _ | exact Kd.N_nil _ _ _ _ _ | exact Kd.V_nil _ _ _ _ _ | exact Kd.Q_nil _ _ _ _ _ | exact Kd.S_nil _ _ _ _ _⟩, ⟨by repeat (first | (with_reducible first | exact HB.out | apply below_alloc | apply pw_below_drewN | apply below_drew1) | exact HB.out)⟩⟩
  case round =>
    clear H'
    try clear c2
    try clear p2
    obtain ⟨x0_1, x5_1, x6_1, rfl, rfl, HA, HK1, HO_5, HB⟩ := hrel
    cases gk with
    | zero => exact absurd HA.out (by simp [logbookref01_Bytes.l0])
    | succ k1 =>
      have H := HA.out
      clear HA
      simp only [logbookref01_Bytes.l0] at H
      by_cases c3 : x6_1 < a1
      · rw [if_pos c3] at H
        have c3b0 : decide (x6_1 < a1) = true := decide_eq_true c3
        clear c3
        by_cases c4 : x6_1 < 8
        · rw [if_pos c4] at H
          have c4b0 : decide (x6_1 < 8) = true := decide_eq_true c4
          clear c4
          by_cases c5 : x5_1.length < 140737488355328
          · rw [if_pos c5] at H
            have LMc5 := Aside0.mk c5
            clear c5
            obtain ⟨y127, hy127⟩ : ∃ y_ : List Int, y_ = (x5_1 ++ [(Int.tmod x0_1 256) % 256]) := ⟨_, rfl⟩
            replace H : (logbookref01_Bytes.l0 k1 (IntKind.u64.wrap (Int.tdiv x0_1 256)) a1 y127 (wrap64 (x6_1 + 1))) = some r := by first | (rw [hy127]; with_reducible exact H) | (have H2_ := (Option.bind_some _ _).symm.trans H; rw [hy127]; with_reducible exact H2_) | (have H2_ := (Option.bind_some _ _).symm.trans H; with_reducible exact H2_) | with_reducible exact H | (rw [hy127]; exact H) | exact H
            have Ny127 := Aside0.mk hy127
            clear hy127
            have H' := Aside0.mk H
            clear H
            go_wp2_with (first | ((with_reducible refine gate_builtin (b := .append) (xs := #[.tmp 16, .tmp 20]) rfl ?_); at_builtin; refine Kd.R_append (Kd.int .u8) (w0 := w) w.heap.size rfl (.tmp 16) (.tmp 20) 51 5 (.int .u8 0) 1 rfl Tryd.underlying51 info5 rfl (by decide) (by omega) u5 x5_1 ((Int.tmod x0_1 256) % 256) [.int .u8 ((Int.tmod x0_1 256) % 256)] (fun _ => True) (fun _ => False) rfl rfl ?aP (fun _ hk => hk.elim) ?aF ?aO ?aB ?aS ?aL ?_; (case aP => exact rfl); (case aB => exact (by repeat (first | (with_reducible first | exact HB.out | apply below_alloc | apply pw_below_drewN | apply below_drew1) | exact HB.out))); (case aF => exact (fun _ _ => trivial)); (case aO => exact (by (with_reducible repeat (first | apply Kd.R_alloc | apply Kd.R_drewN | apply Kd.R_drew)); exact HO_5.out)); (case aS => exact (below_size (by repeat (first | (with_reducible first | exact HB.out | apply below_alloc | apply pw_below_drewN | apply below_drew1) | exact HB.out)))); (case aL => have := LMc5.out; omega); intro v128 w6 ho hb hg hat; rw [← Ny127.out] at ho; have n0_ := Aside0.mk (hb); have n1_ := Aside0.mk (ho); clear HB; clear HO_5; have HB := n0_; have HO129 := n1_; clear n0_ n1_; clear ho hb hg hat))
            go_roundg k1
            case measure => have := HK1.out; omega
            case rel => exact ⟨(IntKind.u64.wrap (Int.tdiv x0_1 256)), (y127), (wrap64 (x6_1 + 1)), (by first | rfl | (simp; done) | (simp [*]; done) | exact isEmpty_bne _), (by first | rfl | (simp; done) | (simp [*]; done) | exact isEmpty_bne _), H', ⟨by have := HK1.out; omega⟩, ⟨by (with_reducible repeat (first | apply Kd.R_alloc | apply Kd.R_drewN | apply Kd.R_drew)); exact HO129.out⟩, ⟨by repeat (first | (with_reducible first | exact HB.out | apply below_alloc | apply pw_below_drewN | apply below_drew1) | exact HB.out)⟩⟩
          · rw [if_neg c5] at H
            exact absurd H (by simp)
        · rw [if_neg c4] at H
          have c4b0 : decide (x6_1 < 8) = false := decide_eq_false c4
          clear c4
          obtain rfl := Option.some.inj H
          go_wp2
          go_ret
          exact ⟨_, by first | rfl | (simp [errW_none, errW_some] <;> rfl) | (simp [*, errW_none, errW_some] <;> rfl), by (with_reducible repeat (first | apply Kd.R_alloc | apply Kd.R_drewN | apply Kd.R_drew)); exact HO_5.out, by repeat (first | (with_reducible first | exact HB.out | apply below_alloc | apply pw_below_drewN | apply below_drew1) | exact HB.out)⟩
      · rw [if_neg c3] at H
        have c3b0 : decide (x6_1 < a1) = false := decide_eq_false c3
        clear c3
        obtain rfl := Option.some.inj H
        go_wp2
        go_ret
        exact ⟨_, by first | rfl | (simp [errW_none, errW_some] <;> rfl) | (simp [*, errW_none, errW_some] <;> rfl), by (with_reducible repeat (first | apply Kd.R_alloc | apply Kd.R_drewN | apply Kd.R_drew)); exact HO_5.out, by repeat (first | (with_reducible first | exact HB.out | apply below_alloc | apply pw_below_drewN | apply below_drew1) | exact HB.out)⟩

/-! ### logbookref32_Item: function 9 -/
def logbookref32_Item.f (k : Nat) (a0 : ByteArray) : Option (ByteArray) := (logbookref04_Split.f k a0).bind fun bt130 => (if bt130.2.2 = true then ((logbookref32_printable.f k bt130.2.1).bind fun t133 => (if t133 = true then (if a0.size + 1 ≤ 9223372036854775807 then (some (a0 ++ (⟨#[10]⟩ : ByteArray))) else (none)) else (if bt130.1.size + 1 ≤ 9223372036854775807 then (if bt130.2.1.size ≤ 9223372036854775807 then ((logbookref01_Bytes.f k (bt130.2.1.size : Int) 8).bind fun t134 => (if bt130.1.size + 1 + (strOfNums t134).size ≤ 9223372036854775807 then (if bt130.1.size + 1 + (strOfNums t134).size + bt130.2.1.size ≤ 9223372036854775807 then (if bt130.1.size + 1 + (strOfNums t134).size + bt130.2.1.size + 1 ≤ 9223372036854775807 then (some ((((bt130.1 ++ (⟨#[10]⟩ : ByteArray)) ++ (strOfNums t134)) ++ bt130.2.1) ++ (⟨#[10]⟩ : ByteArray))) else (none)) else (none)) else (none))) else (none)) else (none)))) else (some (⟨#[]⟩ : ByteArray)))
theorem logbookref32_Item.mono : ∀ a0 k, LeO (logbookref32_Item.f k a0) (logbookref32_Item.f (k + 1) a0) := by
  intro a0 k
  unfold logbookref32_Item.f
  repeat' first
      | (with_reducible exact logbookref01_Bytes.mono _ _ _)
      | (with_reducible exact logbookref04_Split.mono _ _)
      | (with_reducible exact logbookref32_printable.mono _ _)
      | (with_reducible exact LeO.refl _)
      | (with_reducible exact LeO.none _)
      | (with_reducible refine LeO.ite ?_ ?_)
      | (with_reducible refine LeO.bind ?_ (fun _ => ?_))
      | exact logbookref01_Bytes.mono _ _ _
      | exact logbookref04_Split.mono _ _
      | exact logbookref32_printable.mono _ _
      | exact LeO.none _
      | refine LeO.ite ?_ ?_
      | refine LeO.bind ?_ (fun _ => ?_)
set_option maxHeartbeats 8000000 in
set_option maxRecDepth 100000 in
theorem logbookref32_Item.calls (k : Nat) (a0 : ByteArray) (r : ByteArray) (w : World) (h : logbookref32_Item.f k a0 = some r) :
    Calls Tryd.prog 9 #[.string a0] w fun e w' => e = .returned (.string r) ∧ Below w.heap.size w w' := by
  have HB := Aside0.mk (Below.refl w.heap.size w)
  have H : ((logbookref04_Split.f k a0).bind fun bt130 => (if bt130.2.2 = true then ((logbookref32_printable.f k bt130.2.1).bind fun t133 => (if t133 = true then (if a0.size + 1 ≤ 9223372036854775807 then (some (a0 ++ (⟨#[10]⟩ : ByteArray))) else (none)) else (if bt130.1.size + 1 ≤ 9223372036854775807 then (if bt130.2.1.size ≤ 9223372036854775807 then ((logbookref01_Bytes.f k (bt130.2.1.size : Int) 8).bind fun t134 => (if bt130.1.size + 1 + (strOfNums t134).size ≤ 9223372036854775807 then (if bt130.1.size + 1 + (strOfNums t134).size + bt130.2.1.size ≤ 9223372036854775807 then (if bt130.1.size + 1 + (strOfNums t134).size + bt130.2.1.size + 1 ≤ 9223372036854775807 then (some ((((bt130.1 ++ (⟨#[10]⟩ : ByteArray)) ++ (strOfNums t134)) ++ bt130.2.1) ++ (⟨#[10]⟩ : ByteArray))) else (none)) else (none)) else (none))) else (none)) else (none)))) else (some (⟨#[]⟩ : ByteArray)))) = some r := h
  clear h
  replace H := Option.bind_eq_some_iff.mp H
  obtain ⟨⟨t130, t131, t132⟩, A20, H⟩ := H
  replace H : (if t132 = true then ((logbookref32_printable.f k t131).bind fun t133 => (if t133 = true then (if a0.size + 1 ≤ 9223372036854775807 then (some (a0 ++ (⟨#[10]⟩ : ByteArray))) else (none)) else (if t130.size + 1 ≤ 9223372036854775807 then (if t131.size ≤ 9223372036854775807 then ((logbookref01_Bytes.f k (t131.size : Int) 8).bind fun t134 => (if t130.size + 1 + (strOfNums t134).size ≤ 9223372036854775807 then (if t130.size + 1 + (strOfNums t134).size + t131.size ≤ 9223372036854775807 then (if t130.size + 1 + (strOfNums t134).size + t131.size + 1 ≤ 9223372036854775807 then (some ((((t130 ++ (⟨#[10]⟩ : ByteArray)) ++ (strOfNums t134)) ++ t131) ++ (⟨#[10]⟩ : ByteArray))) else (none)) else (none)) else (none))) else (none)) else (none)))) else (some (⟨#[]⟩ : ByteArray))) = some r := H
  have A2 := Aside0.mk A20
  clear A20
  by_cases c3 : t132 = true
  · subst c3
    have H1 : ((logbookref32_printable.f k t131).bind fun t133 => (if t133 = true then (if a0.size + 1 ≤ 9223372036854775807 then (some (a0 ++ (⟨#[10]⟩ : ByteArray))) else (none)) else (if t130.size + 1 ≤ 9223372036854775807 then (if t131.size ≤ 9223372036854775807 then ((logbookref01_Bytes.f k (t131.size : Int) 8).bind fun t134 => (if t130.size + 1 + (strOfNums t134).size ≤ 9223372036854775807 then (if t130.size + 1 + (strOfNums t134).size + t131.size ≤ 9223372036854775807 then (if t130.size + 1 + (strOfNums t134).size + t131.size + 1 ≤ 9223372036854775807 then (some ((((t130 ++ (⟨#[10]⟩ : ByteArray)) ++ (strOfNums t134)) ++ t131) ++ (⟨#[10]⟩ : ByteArray))) else (none)) else (none)) else (none))) else (none)) else (none)))) = some r := by rw [if_pos rfl] at H; exact H
    clear H
    have H := H1
    clear H1
    replace H := Option.bind_eq_some_iff.mp H
    obtain ⟨t133, A40, H⟩ := H
    replace H : (if t133 = true then (if a0.size + 1 ≤ 9223372036854775807 then (some (a0 ++ (⟨#[10]⟩ : ByteArray))) else (none)) else (if t130.size + 1 ≤ 9223372036854775807 then (if t131.size ≤ 9223372036854775807 then ((logbookref01_Bytes.f k (t131.size : Int) 8).bind fun t134 => (if t130.size + 1 + (strOfNums t134).size ≤ 9223372036854775807 then (if t130.size + 1 + (strOfNums t134).size + t131.size ≤ 9223372036854775807 then (if t130.size + 1 + (strOfNums t134).size + t131.size + 1 ≤ 9223372036854775807 then (some ((((t130 ++ (⟨#[10]⟩ : ByteArray)) ++ (strOfNums t134)) ++ t131) ++ (⟨#[10]⟩ : ByteArray))) else (none)) else (none)) else (none))) else (none)) else (none))) = some r := H
    have A4 := Aside0.mk A40
    clear A40
    by_cases c5 : t133 = true
    · subst c5
      have H1 : (if a0.size + 1 ≤ 9223372036854775807 then (some (a0 ++ (⟨#[10]⟩ : ByteArray))) else (none)) = some r := by rw [if_pos rfl] at H; exact H
      clear H
      have H := H1
      clear H1
      by_cases c6 : a0.size + 1 ≤ 9223372036854775807
      · rw [if_pos c6] at H
        have c6b0 := eq_true c6
        have c6b1 : decide (a0.size + 1 ≤ 9223372036854775807) = true := decide_eq_true c6
        try have c6b2 : (9223372036854775807 < a0.size + 1) = False := eq_false (Nat.not_lt.2 c6)
        obtain rfl := Option.some.inj H
        go_enter Tryd.func9, Tryd.ntmps9
        go_wp2_with (first | ((with_reducible refine gate_callee (f := 22) rfl ?_); refine goesL_ (some 8) rfl rfl Tryd.func22 (by kernel_rfl) rfl #[.string a0] rfl (by (try simp only [List.map_toArray, List.map_cons, List.map_nil]); first | done | rfl | (simp only [List.length_drop, List.length_take]; rfl)) ?_; (with_reducible refine (logbookref04_Split.calls k a0 t130 t131 true _ A2.out).mono ?_); rintro e w' ⟨rfl, ⟨nd, rfl⟩⟩; refine ⟨_, rfl, ?_⟩) | ((with_reducible refine gate_callee (f := 23) rfl ?_); refine goesL_ (some 15) rfl rfl Tryd.func23 (by kernel_rfl) rfl #[.string t131] rfl (by (try simp only [List.map_toArray, List.map_cons, List.map_nil]); first | done | rfl | (simp only [List.length_drop, List.length_take]; rfl)) ?_; (with_reducible refine (logbookref32_printable.calls k t131 true _ A4.out).mono ?_); rintro e w' ⟨rfl, ⟨nd, rfl⟩⟩; refine ⟨_, rfl, ?_⟩))
        go_ret
        exact ⟨by first | rfl | (simp [errW_none, errW_some] <;> rfl) | (simp [*, errW_none, errW_some] <;> rfl), by repeat (first | (with_reducible first | exact HB.out | apply below_alloc | apply pw_below_drewN | apply below_drew1) | exact HB.out)⟩
      · rw [if_neg c6] at H
        exact absurd H (by simp)
    · replace c5 := Bool.eq_false_iff.mpr c5
      subst c5
      have H1 : (if t130.size + 1 ≤ 9223372036854775807 then (if t131.size ≤ 9223372036854775807 then ((logbookref01_Bytes.f k (t131.size : Int) 8).bind fun t134 => (if t130.size + 1 + (strOfNums t134).size ≤ 9223372036854775807 then (if t130.size + 1 + (strOfNums t134).size + t131.size ≤ 9223372036854775807 then (if t130.size + 1 + (strOfNums t134).size + t131.size + 1 ≤ 9223372036854775807 then (some ((((t130 ++ (⟨#[10]⟩ : ByteArray)) ++ (strOfNums t134)) ++ t131) ++ (⟨#[10]⟩ : ByteArray))) else (none)) else (none)) else (none))) else (none)) else (none)) = some r := by rw [if_neg (show ¬ (false = true) by decide)] at H; exact H
      clear H
      have H := H1
      clear H1
      by_cases c7 : t130.size + 1 ≤ 9223372036854775807
      · rw [if_pos c7] at H
        have c7b0 := eq_true c7
        have c7b1 : decide (t130.size + 1 ≤ 9223372036854775807) = true := decide_eq_true c7
        try have c7b2 : (9223372036854775807 < t130.size + 1) = False := eq_false (Nat.not_lt.2 c7)
        by_cases c8 : t131.size ≤ 9223372036854775807
        · rw [if_pos c8] at H
          have c8b0 := eq_true c8
          have c8b1 : decide (t131.size ≤ 9223372036854775807) = true := decide_eq_true c8
          try have c8b2 : (9223372036854775807 < t131.size) = False := eq_false (Nat.not_lt.2 c8)
          clear c8
          replace H := Option.bind_eq_some_iff.mp H
          obtain ⟨t134, A90, H⟩ := H
          replace H : (if t130.size + 1 + (strOfNums t134).size ≤ 9223372036854775807 then (if t130.size + 1 + (strOfNums t134).size + t131.size ≤ 9223372036854775807 then (if t130.size + 1 + (strOfNums t134).size + t131.size + 1 ≤ 9223372036854775807 then (some ((((t130 ++ (⟨#[10]⟩ : ByteArray)) ++ (strOfNums t134)) ++ t131) ++ (⟨#[10]⟩ : ByteArray))) else (none)) else (none)) else (none)) = some r := H
          have A9 := Aside0.mk A90
          clear A90
          by_cases c10 : t130.size + 1 + (strOfNums t134).size ≤ 9223372036854775807
          · rw [if_pos c10] at H
            have c10b0 := eq_true c10
            have c10b1 : decide (t130.size + 1 + (strOfNums t134).size ≤ 9223372036854775807) = true := decide_eq_true c10
            try have c10b2 : (9223372036854775807 < t130.size + 1 + (strOfNums t134).size) = False := eq_false (Nat.not_lt.2 c10)
            by_cases c11 : t130.size + 1 + (strOfNums t134).size + t131.size ≤ 9223372036854775807
            · rw [if_pos c11] at H
              have c11b0 := eq_true c11
              have c11b1 : decide (t130.size + 1 + (strOfNums t134).size + t131.size ≤ 9223372036854775807) = true := decide_eq_true c11
              try have c11b2 : (9223372036854775807 < t130.size + 1 + (strOfNums t134).size + t131.size) = False := eq_false (Nat.not_lt.2 c11)
              by_cases c12 : t130.size + 1 + (strOfNums t134).size + t131.size + 1 ≤ 9223372036854775807
              · rw [if_pos c12] at H
                have c12b0 := eq_true c12
                have c12b1 : decide (t130.size + 1 + (strOfNums t134).size + t131.size + 1 ≤ 9223372036854775807) = true := decide_eq_true c12
                try have c12b2 : (9223372036854775807 < t130.size + 1 + (strOfNums t134).size + t131.size + 1) = False := eq_false (Nat.not_lt.2 c12)
                obtain rfl := Option.some.inj H
                go_enter Tryd.func9, Tryd.ntmps9
                go_wp2_with (first | ((with_reducible refine gate_callee (f := 22) rfl ?_); refine goesL_ (some 8) rfl rfl Tryd.func22 (by kernel_rfl) rfl #[.string a0] rfl (by (try simp only [List.map_toArray, List.map_cons, List.map_nil]); first | done | rfl | (simp only [List.length_drop, List.length_take]; rfl)) ?_; (with_reducible refine (logbookref04_Split.calls k a0 t130 t131 true _ A2.out).mono ?_); rintro e w' ⟨rfl, ⟨nd, rfl⟩⟩; refine ⟨_, rfl, ?_⟩) | ((with_reducible refine gate_callee (f := 23) rfl ?_); refine goesL_ (some 15) rfl rfl Tryd.func23 (by kernel_rfl) rfl #[.string t131] rfl (by (try simp only [List.map_toArray, List.map_cons, List.map_nil]); first | done | rfl | (simp only [List.length_drop, List.length_take]; rfl)) ?_; (with_reducible refine (logbookref32_printable.calls k t131 false _ A4.out).mono ?_); rintro e w' ⟨rfl, ⟨nd, rfl⟩⟩; refine ⟨_, rfl, ?_⟩) | ((with_reducible refine gate_callee (f := 24) rfl ?_); refine goesL_ (some 23) rfl rfl Tryd.func24 (by kernel_rfl) rfl #[.int .u64 (t131.size : Int), .int .i64 8] rfl (by (try simp only [List.map_toArray, List.map_cons, List.map_nil]); first | done | rfl | (simp only [List.length_drop, List.length_take]; rfl)) ?_; (with_reducible refine (logbookref01_Bytes.calls k (t131.size : Int) 8 t134 _ A9.out).mono ?_); rintro e w13 ⟨v135, rfl, ho0, hb⟩; refine ⟨_, rfl, ?_⟩; have n0_ := Aside0.mk (Kd.R_lower ho0 (below_size (by repeat (first | (with_reducible first | exact HB.out | apply below_alloc | apply pw_below_drewN | apply below_drew1) | exact HB.out)))); have n1_ := Aside0.mk (below_step (by repeat (first | (with_reducible first | exact HB.out | apply below_alloc | apply pw_below_drewN | apply below_drew1) | exact HB.out)) hb); clear HB; have HO136 := n0_; have HB := n1_; clear n0_ n1_; (try clear hb); (try clear hb2); (try clear hk); (try clear hi); (try clear ho0); have hcv14 := own_string (P := Tryd.prog) Tryd.underlying51 Tryd.underlying5 Tryd.underlying9 (Kd.own_of_R HO136.out)))
                go_ret
                exact ⟨by first | rfl | (simp [errW_none, errW_some] <;> rfl) | (simp [*, errW_none, errW_some] <;> rfl), by repeat (first | (with_reducible first | exact HB.out | apply below_alloc | apply pw_below_drewN | apply below_drew1) | exact HB.out)⟩
              · rw [if_neg c12] at H
                exact absurd H (by simp)
            · rw [if_neg c11] at H
              exact absurd H (by simp)
          · rw [if_neg c10] at H
            exact absurd H (by simp)
        · rw [if_neg c8] at H
          exact absurd H (by simp)
      · rw [if_neg c7] at H
        exact absurd H (by simp)
  · replace c3 := Bool.eq_false_iff.mpr c3
    subst c3
    have H1 : (some (⟨#[]⟩ : ByteArray)) = some r := by rw [if_neg (show ¬ (false = true) by decide)] at H; exact H
    clear H
    have H := H1
    clear H1
    obtain rfl := Option.some.inj H
    go_enter Tryd.func9, Tryd.ntmps9
    go_wp2_with (first | ((with_reducible refine gate_callee (f := 22) rfl ?_); refine goesL_ (some 8) rfl rfl Tryd.func22 (by kernel_rfl) rfl #[.string a0] rfl (by (try simp only [List.map_toArray, List.map_cons, List.map_nil]); first | done | rfl | (simp only [List.length_drop, List.length_take]; rfl)) ?_; (with_reducible refine (logbookref04_Split.calls k a0 t130 t131 false _ A2.out).mono ?_); rintro e w' ⟨rfl, ⟨nd, rfl⟩⟩; refine ⟨_, rfl, ?_⟩))
    go_ret
    exact ⟨by first | rfl | (simp [errW_none, errW_some] <;> rfl) | (simp [*, errW_none, errW_some] <;> rfl), by repeat (first | (with_reducible first | exact HB.out | apply below_alloc | apply pw_below_drewN | apply below_drew1) | exact HB.out)⟩

-- GIVEN rounds=0 making=1
/-! ### name.Hex: by hand: an array of bytes, written place by place, as a text -/
def name_Hex.f (a0 : Int) : Option (ByteArray) := if 0 ≤ a0 ∧ a0 ≤ 18446744073709551615 then some (strOfNums (hexL a0)) else none
def hexAt (n : Int) (k j : Nat) : Int := if j < k then hexD n j else 0
theorem hex_zero : (#[.int .u8 0, .int .u8 0, .int .u8 0, .int .u8 0, .int .u8 0, .int .u8 0, .int .u8 0, .int .u8 0, .int .u8 0, .int .u8 0, .int .u8 0, .int .u8 0, .int .u8 0, .int .u8 0, .int .u8 0, .int .u8 0] : Array Value) = Array.replicate 16 (.int .u8 0) := rfl
theorem hexAt_next {n : Int} {k j : Nat} (h : j ≠ k) : hexAt n (k + 1) j = hexAt n k j := by
  unfold hexAt
  by_cases h1 : j < k
  · rw [if_pos h1, if_pos (by omega)]
  · rw [if_neg h1, if_neg (by omega)]
theorem hexAt_here {n : Int} {k : Nat} : hexAt n (k + 1) k = hexD n k := if_pos (Nat.lt_succ_self k)
theorem hex_pow : ∀ k : Fin 16, (2 : Int) ^ (60 - 4 * k.val) = 16 ^ (15 - k.val) := by decide +kernel
theorem hex_pos : ∀ k : Fin 16, (1 : Int) ≤ 16 ^ (15 - k.val) := by decide +kernel
theorem hex_digit (n : Int) (h0 : 0 ≤ n) (h1 : n ≤ 18446744073709551615) (k : Nat) (hk : k < 16) : bits .and .u64 (n / 2 ^ (60 - 4 * k)) 15 = n / 16 ^ (15 - k) % 16 := by
  have e := hex_pow ⟨k, hk⟩
  have p := hex_pos ⟨k, hk⟩
  simp only at e p
  rw [e]
  generalize (16 : Int) ^ (15 - k) = z at p
  have q0 : 0 ≤ n / z := Int.ediv_nonneg h0 (by omega)
  have q1 : n / z ≤ n := Int.ediv_le_self z h0
  exact bits_mask .u64 64 (by decide) wraps_u64 4 (by decide) (n / z) q0 (by omega)
theorem hex_reads {w : World} {g : Nat} {n : Int} (h : ∀ j, j < 16 → w.cell? ⟨g, j, none⟩ = some (.int .u8 (hexAt n 16 j))) :
    ReadsInt w .u8 (some ⟨g, 0, none⟩) 16 (hexL n) := by
  refine ⟨rfl, by decide, fun _ => ⟨_, rfl, fun j hj => ?_⟩⟩
  rw [add_plain, h j hj]
  unfold hexAt
  rw [if_pos hj]
  unfold hexL
  rw [List.getD_eq_getElem?_getD, List.getElem?_map, List.getElem?_range hj]
  rfl
set_option maxHeartbeats 1600000 in
theorem name_Hex.calls (a0 : Int) (r : ByteArray) (w : World) (h : name_Hex.f a0 = some r) :
    Calls Tryd.prog 26 #[.int .u64 a0] w fun e w' => e = .returned (.string r) ∧ Below w.heap.size w w' := by
  unfold name_Hex.f at h
  by_cases hs : 0 ≤ a0 ∧ a0 ≤ 18446744073709551615
  case neg => rw [if_neg hs] at h; cases h
  rw [if_pos hs] at h
  have hr : Hid (strOfNums (hexL a0) = r) := Lib.hid (Option.some.inj h)
  clear h
  obtain ⟨h0, h1⟩ := hs
  have HB : Hid (Below w.heap.size w (w.alloc (.cells #[.int .u8 0, .int .u8 0, .int .u8 0, .int .u8 0, .int .u8 0, .int .u8 0, .int .u8 0, .int .u8 0, .int .u8 0, .int .u8 0, .int .u8 0, .int .u8 0, .int .u8 0, .int .u8 0, .int .u8 0, .int .u8 0] 82))) := Lib.hid ((Below.refl _ _).alloc (Nat.le_refl _) _)
  have HO := Lib.hid (heap_alloc_new w (.cells #[.int .u8 0, .int .u8 0, .int .u8 0, .int .u8 0, .int .u8 0, .int .u8 0, .int .u8 0, .int .u8 0, .int .u8 0, .int .u8 0, .int .u8 0, .int .u8 0, .int .u8 0, .int .u8 0, .int .u8 0, .int .u8 0] 82))
  go_enter Tryd.func26, Tryd.ntmps26
  go_wp2
  go_loopw [6, 4, 5] (fun i _ _ wr => ∃ k : Nat, k ≤ 16 ∧ i = .int .i64 k ∧ Hid (∀ j, j < 16 → wr.cell? ⟨w.heap.size, j, none⟩ = some (.int .u8 (hexAt a0 k j))) ∧ Hid (∀ j, j < 16 → wr.frozen? ⟨w.heap.size, j, none⟩ = false) ∧ Hid (Below w.heap.size w wr)) (fun i _ _ _ => 16 - (intOf i).toNat)
  case atStart =>
    refine ⟨0, by omega, rfl, Lib.hid (fun j hj => ?_), Lib.hid (fun j hj => ?_), HB⟩
    · have := blk_cell HO.out j
      rw [this, hex_zero]
      simp [hexAt, hj]
    · have := blk_frozen HO.out j
      rw [hex_zero] at this
      simp at this
      first | exact this hj | exact this | simp [this]
  case round =>
    obtain ⟨k, hk, rfl, hcc, hff, hbb⟩ := hrel
    by_cases hlt : k < 16
    · have hc := hcc.out k hlt
      have hf := hff.out k hlt
      have hd := hex_digit a0 h0 h1 k hlt
      have HD : Hid (hexD a0 k = digX (a0 / 16 ^ (15 - k) % 16)) := Lib.hid rfl
      have b0 : 0 ≤ a0 / 16 ^ (15 - k) % 16 := Int.emod_nonneg _ (by decide)
      have b1 : a0 / 16 ^ (15 - k) % 16 < 16 := Int.emod_lt_of_pos _ (by decide)
      generalize a0 / 16 ^ (15 - k) % 16 = e at hd HD b0 b1
      have hs : ∀ W : World, W.cell? ⟨w.heap.size, k, none⟩ ≠ none → (∀ j, j < 16 → j ≠ k → W.cell? ⟨w.heap.size, j, none⟩ = some (.int .u8 (hexAt a0 k j))) → ∀ d : Int, d = digX e → ∀ j, j < 16 → (W.setCell ⟨w.heap.size, k, none⟩ (.int .u8 d)).cell? ⟨w.heap.size, j, none⟩ = some (.int .u8 (hexAt a0 (k + 1) j)) := by
        intro W hW ho d hd j hj
        obtain ⟨u, hu⟩ := Option.ne_none_iff_exists'.1 hW
        by_cases e : j = k
        · rw [e, World.cell?_setCell_same _ _ _ hu, hexAt_here, HD.out, hd]
        · rw [World.cell?_setCell_other _ _ _ _ (fun he => e (by injection he with _ he _; exact he.symm)), hexAt_next e]
          exact ho j hj e
      have HS := Lib.hid hs
      clear hs
      by_cases c1 : e < 10
      · have c2 : e ≤ 9 := by omega
        go_wp2
        go_roundw
        case rel => exact ⟨k + 1, by omega, by go_num, Lib.hid (HS.out wr (by rw [hc]; simp) (fun j hj _ => hcc.out j hj) _ (by unfold digX; rw [if_pos c1])), Lib.hid (fun j hj => by rw [World.frozen?_setCell]; exact hff.out j hj), Lib.hid (hbb.out.setCell (Nat.le_refl _) _)⟩
        case measure => simp [intOf]; omega
      · have c2 : 9 < e := by omega
        go_wp2
        go_roundw
        case rel =>
          refine ⟨k + 1, by omega, by go_num, Lib.hid (HS.out _ ?_ ?_ _ ?_), Lib.hid (fun j hj => by rw [World.frozen?_setCell, World.frozen?_setCell]; exact hff.out j hj), Lib.hid ((hbb.out.setCell (Nat.le_refl _) _).setCell (Nat.le_refl _) _)⟩
          · rw [World.cell?_setCell_same _ _ _ hc]
            simp
          · intro j hj hne
            rw [World.cell?_setCell_other _ _ _ _ (fun he => hne (by injection he with _ he _; exact he.symm))]
            exact hcc.out j hj
          · unfold digX
            rw [if_neg c1]
            omega
        case measure => simp [intOf]; omega
    · obtain rfl : k = 16 := by omega
      have hcv := string_of_reads (P := Tryd.prog) (src := 51) (dst := 9) (e := 5) (c := 16) Tryd.underlying51 Tryd.underlying5 Tryd.underlying9 (hex_reads hcc.out)
      go_wp2
      go_ret
      exact ⟨by first | rfl | (rw [hr.out]; rfl), hbb.out⟩

/-! ### strings_trimLeftByte: function 64 -/
def strings_trimLeftByte.l0 : Nat → ByteArray → Int → Option (ByteArray)
  | 0, _, _ => none
  | k + 1, x0, x1 => if (x0.size : Int) > 0 then (if 0 < (x0.size : Int) then (if (bt x0 0) = x1 then (if 1 ≤ (x0.size : Int) then (strings_trimLeftByte.l0 k (x0.extract 1 x0.size) x1) else (none)) else (some x0)) else (none)) else (some x0)
def strings_trimLeftByte.f (k : Nat) (a0 : ByteArray) (a1 : Int) : Option (ByteArray) := strings_trimLeftByte.l0 k a0 a1
theorem strings_trimLeftByte.mono_l : ∀ k, (∀ y0 y1, LeO (strings_trimLeftByte.l0 k y0 y1) (strings_trimLeftByte.l0 (k + 1) y0 y1))
  | 0 => fun _ _ r h => by simp [strings_trimLeftByte.l0] at h
  | k + 1 => by
    have ih0 := strings_trimLeftByte.mono_l k
    · intro y0 y1
      unfold strings_trimLeftByte.l0
      repeat' first
      | (with_reducible exact ih0 _ _)
      | (with_reducible exact LeO.refl _)
      | (with_reducible exact LeO.none _)
      | (with_reducible refine LeO.ite ?_ ?_)
      | (with_reducible refine LeO.bind ?_ (fun _ => ?_))
      | exact ih0 _ _
      | exact LeO.none _
      | refine LeO.ite ?_ ?_
      | refine LeO.bind ?_ (fun _ => ?_)
theorem strings_trimLeftByte.mono : ∀ a0 a1 k, LeO (strings_trimLeftByte.f k a0 a1) (strings_trimLeftByte.f (k + 1) a0 a1) := by
  intro a0 a1 k
  have ih0 := strings_trimLeftByte.mono_l k
  unfold strings_trimLeftByte.f
  repeat' first
      | (with_reducible exact ih0 _ _)
      | (with_reducible exact LeO.refl _)
      | (with_reducible exact LeO.none _)
      | (with_reducible refine LeO.ite ?_ ?_)
      | (with_reducible refine LeO.bind ?_ (fun _ => ?_))
      | exact ih0 _ _
      | exact LeO.none _
      | refine LeO.ite ?_ ?_
      | refine LeO.bind ?_ (fun _ => ?_)
set_option maxHeartbeats 8000000 in
set_option maxRecDepth 100000 in
theorem strings_trimLeftByte.calls (k : Nat) (a0 : ByteArray) (a1 : Int) (r : ByteArray) (w : World) (h : strings_trimLeftByte.f k a0 a1 = some r) :
    Calls Tryd.prog 64 #[.string a0, .int .u8 a1] w fun e w' => e = .returned (.string r) ∧ Drawn0 w w' := by
  have H : (strings_trimLeftByte.l0 k a0 a1) = some r := h
  clear h
  have H' := Aside0.mk H
  clear H
  go_enter Tryd.func64, Tryd.ntmps64
  go_wp2
  go_loopg [0] k (fun kq v0 w' => ∃ (x0_1 : ByteArray), v0 = .string x0_1 ∧ Aside0 (strings_trimLeftByte.l0 kq x0_1 a1 = some r) ∧ Aside0 (kq ≤ k) ∧ Drawn0 w w')
  case atStart => exact ⟨(a0), (by first | rfl | (simp; done) | (simp [*]; done) | exact isEmpty_bne _), H', ⟨Nat.le_refl _⟩, by repeat (first | exact Drawn0.refl _ | apply Drawn0.step)⟩
  case round =>
    clear H'
    try clear p2
    obtain ⟨x0_1, rfl, HA, HK1, ⟨m1, rfl⟩⟩ := hrel
    cases gk with
    | zero => exact absurd HA.out (by simp [strings_trimLeftByte.l0])
    | succ k1 =>
      have H := HA.out
      clear HA
      simp only [strings_trimLeftByte.l0] at H
      by_cases c3 : (x0_1.size : Int) > 0
      · rw [if_pos c3] at H
        have c3b0 : decide (0 < (x0_1.size : Int)) = true := decide_eq_true c3
        have c3b1 : decide (0 < x0_1.size) = true := decide_eq_true (by omega)
        clear c3
        by_cases c4 : 0 < (x0_1.size : Int)
        · rw [if_pos c4] at H
          have c4b0 : decide (0 < (x0_1.size : Int)) = true := decide_eq_true c4
          have c4b1 : decide (0 < x0_1.size) = true := decide_eq_true (by omega)
          clear c4
          by_cases c6 : (bt x0_1 0) = a1
          · rw [if_pos c6] at H
            have c6b0 : ((bt x0_1 0) == a1) = true := beq_iff_eq.mpr c6
            have c6b1 : ((bt x0_1 0) != a1) = false := bne_eq_false_iff_eq.mpr c6
            clear c6
            by_cases c7 : 1 ≤ (x0_1.size : Int)
            · rw [if_pos c7] at H
              have c7b0 := eq_true c7
              have c7b1 : decide (1 ≤ (x0_1.size : Int)) = true := decide_eq_true c7
              clear c7
              have H' := Aside0.mk H
              clear H
              have p5 : 0 ≤ (0 : Int) := (by omega)
              have q5 : 0 < x0_1.size := (by have : (0 : Int) < (x0_1.size : Int) := of_decide_eq_true (by first | (with_reducible assumption) | assumption); omega)
              have hx5 : ∀ h : 0 < x0_1.size, ((x0_1[0]'h).toNat : Int) = bt x0_1 0 := bt_at x0_1 0
              clear p5
              have qi5 : (0 < (x0_1.size : Int)) = True := eq_true (of_decide_eq_true (by first | (with_reducible assumption) | assumption))
              replace q5 := eq_true q5
              go_wp2
              go_roundg k1
              case measure => have := HK1.out; omega
              case rel => exact ⟨(x0_1.extract 1 x0_1.size), (by first | rfl | (simp; done) | (simp [*]; done) | exact isEmpty_bne _), H', ⟨by have := HK1.out; omega⟩, by repeat (first | exact Drawn0.refl _ | apply Drawn0.step)⟩
            · rw [if_neg c7] at H
              exact absurd H (by simp)
          · rw [if_neg c6] at H
            have c6b0 : ((bt x0_1 0) == a1) = false := beq_eq_false_iff_ne.mpr c6
            have c6b1 : ((bt x0_1 0) != a1) = true := bne_iff_ne.mpr c6
            obtain rfl := Option.some.inj H
            have p5 : 0 ≤ (0 : Int) := (by omega)
            have q5 : 0 < x0_1.size := (by have : (0 : Int) < (x0_1.size : Int) := of_decide_eq_true (by first | (with_reducible assumption) | assumption); omega)
            have hx5 : ∀ h : 0 < x0_1.size, ((x0_1[0]'h).toNat : Int) = bt x0_1 0 := bt_at x0_1 0
            clear p5
            have qi5 : (0 < (x0_1.size : Int)) = True := eq_true (of_decide_eq_true (by first | (with_reducible assumption) | assumption))
            replace q5 := eq_true q5
            go_wp2
            go_ret
            exact ⟨by first | rfl | (simp; done) | (simp [*]; done) | exact isEmpty_bne _, by repeat (first | exact Drawn0.refl _ | apply Drawn0.step)⟩
        · rw [if_neg c4] at H
          exact absurd H (by simp)
      · rw [if_neg c3] at H
        have c3b0 : decide (0 < (x0_1.size : Int)) = false := decide_eq_false c3
        have c3b1 : decide (0 < x0_1.size) = false := decide_eq_false (by omega)
        clear c3
        obtain rfl := Option.some.inj H
        go_wp2
        go_ret
        exact ⟨by first | rfl | (simp; done) | (simp [*]; done) | exact isEmpty_bne _, by repeat (first | exact Drawn0.refl _ | apply Drawn0.step)⟩

-- GIVEN rounds=1 making=1 needs=strings.trimLeftByte
/-! ### strings.TrimLeft: by hand: a cutset of one byte -/
def strings_TrimLeft.f (k : Nat) (a0 : ByteArray) (a1 : ByteArray) : Option (ByteArray) :=
  if a1.size = 1 ∧ bt a1 0 < 128 then (if a0.size = 0 then some a0 else strings_trimLeftByte.f k a0 (bt a1 0)) else none
theorem strings_TrimLeft.mono : ∀ a0 a1 k, LeO (strings_TrimLeft.f k a0 a1) (strings_TrimLeft.f (k + 1) a0 a1) := by
  intro a0 a1 k
  unfold strings_TrimLeft.f
  repeat' first
    | (with_reducible exact strings_trimLeftByte.mono _ _ _)
    | (with_reducible exact LeO.refl _)
    | (with_reducible exact LeO.none _)
    | (with_reducible refine LeO.ite ?_ ?_)
set_option maxHeartbeats 1600000 in
theorem strings_TrimLeft.calls (k : Nat) (a0 : ByteArray) (a1 : ByteArray) (r : ByteArray) (w : World) (h : strings_TrimLeft.f k a0 a1 = some r) :
    Calls Tryd.prog 57 #[.string a0, .string a1] w fun e w' => e = .returned (.string r) ∧ Below w.heap.size w w' := by
  unfold strings_TrimLeft.f at h
  by_cases hc : a1.size = 1 ∧ bt a1 0 < 128
  case neg => rw [if_neg hc] at h; cases h
  rw [if_pos hc] at h
  obtain ⟨h1, h2⟩ := hc
  have hpos : 0 < a1.size := by omega
  have e3 := (toList_ne (s := a1) (by omega))
  obtain ⟨e4, e5⟩ := e3
  have hb0 := bt0 (s := a1) hpos
  by_cases hz : a0.size = 0
  · rw [if_pos hz] at h
    obtain rfl := Option.some.inj h
    have e1 := toList_nil hz
    clear h hz hb0
    go_enter Tryd.func57, Tryd.ntmps57
    go_wp2
    go_ret
    exact ⟨rfl, Below.refl _ _⟩
  rw [if_neg hz] at h
  obtain ⟨e1, e2⟩ := toList_ne hz
  rw [hb0] at h h2
  have H := Lib.hid h
  have hs : (a1.size : Int) = 1 := by omega
  clear h hz hb0 h1
  go_enter Tryd.func57, Tryd.ntmps57
  go_wp2_with (first
    | (go_at_call 64; (with_reducible refine (strings_trimLeftByte.calls k a0 _ r _ H.out).mono ?_); rintro e w2 ⟨rfl, nd, rfl⟩))
  go_ret
  exact ⟨rfl, pw_below_drewN (Below.refl _ _) nd⟩

/-! ### cursor_Hex: function 44 -/
def cursor_Hex.f (k : Nat) (a0 : Int) : Option (ByteArray) := (name_Hex.f a0).bind fun t137 => ((strings_TrimLeft.f k t137 (⟨#[48]⟩ : ByteArray)).bind fun t138 => (if t138.toList = ([] : List UInt8) then (some (⟨#[48]⟩ : ByteArray)) else (some t138)))
theorem cursor_Hex.mono : ∀ a0 k, LeO (cursor_Hex.f k a0) (cursor_Hex.f (k + 1) a0) := by
  intro a0 k
  unfold cursor_Hex.f
  repeat' first
      | (with_reducible exact strings_TrimLeft.mono _ _ _)
      | (with_reducible exact LeO.refl _)
      | (with_reducible exact LeO.none _)
      | (with_reducible refine LeO.ite ?_ ?_)
      | (with_reducible refine LeO.bind ?_ (fun _ => ?_))
      | exact strings_TrimLeft.mono _ _ _
      | exact LeO.none _
      | refine LeO.ite ?_ ?_
      | refine LeO.bind ?_ (fun _ => ?_)
set_option maxHeartbeats 8000000 in
set_option maxRecDepth 100000 in
theorem cursor_Hex.calls (k : Nat) (a0 : Int) (r : ByteArray) (w : World) (h : cursor_Hex.f k a0 = some r) :
    Calls Tryd.prog 44 #[.int .u64 a0] w fun e w' => e = .returned (.string r) ∧ Below w.heap.size w w' := by
  have HB := Aside0.mk (Below.refl w.heap.size w)
  have H : ((name_Hex.f a0).bind fun t137 => ((strings_TrimLeft.f k t137 (⟨#[48]⟩ : ByteArray)).bind fun t138 => (if t138.toList = ([] : List UInt8) then (some (⟨#[48]⟩ : ByteArray)) else (some t138)))) = some r := h
  clear h
  replace H := Option.bind_eq_some_iff.mp H
  obtain ⟨t137, A20, H⟩ := H
  replace H : ((strings_TrimLeft.f k t137 (⟨#[48]⟩ : ByteArray)).bind fun t138 => (if t138.toList = ([] : List UInt8) then (some (⟨#[48]⟩ : ByteArray)) else (some t138))) = some r := H
  have A2 := Aside0.mk A20
  clear A20
  replace H := Option.bind_eq_some_iff.mp H
  obtain ⟨t138, A30, H⟩ := H
  replace H : (if t138.toList = ([] : List UInt8) then (some (⟨#[48]⟩ : ByteArray)) else (some t138)) = some r := H
  have A3 := Aside0.mk A30
  clear A30
  by_cases c4 : t138.toList = ([] : List UInt8)
  · rw [if_pos c4] at H
    have c4b0 : (t138.toList == ([] : List UInt8)) = true := beq_iff_eq.mpr c4
    have c4b1 : (t138.toList != ([] : List UInt8)) = false := bne_eq_false_iff_eq.mpr c4
    clear c4
    obtain rfl := Option.some.inj H
    go_enter Tryd.func44, Tryd.ntmps44
    go_wp2_with (first | ((with_reducible refine gate_callee (f := 26) rfl ?_); refine goesL_ (some 5) rfl rfl Tryd.func26 (by kernel_rfl) rfl #[.int .u64 a0] rfl (by (try simp only [List.map_toArray, List.map_cons, List.map_nil]); first | done | rfl | (simp only [List.length_drop, List.length_take]; rfl)) ?_; (with_reducible refine (name_Hex.calls a0 t137 _ A2.out).mono ?_); rintro e w5 ⟨rfl, hb⟩; refine ⟨_, rfl, ?_⟩; have n0_ := Aside0.mk (below_step (by repeat (first | (with_reducible first | exact HB.out | apply below_alloc | apply pw_below_drewN | apply below_drew1) | exact HB.out)) hb); clear HB; have HB := n0_; clear n0_; (try clear hb); (try clear hb2); (try clear hk); (try clear hi)) | ((with_reducible refine gate_callee (f := 57) rfl ?_); refine goesL_ (some 6) rfl rfl Tryd.func57 (by kernel_rfl) rfl #[.string t137, .string (⟨#[48]⟩ : ByteArray)] rfl (by (try simp only [List.map_toArray, List.map_cons, List.map_nil]); first | done | rfl | (simp only [List.length_drop, List.length_take]; rfl)) ?_; (with_reducible refine (strings_TrimLeft.calls k t137 (⟨#[48]⟩ : ByteArray) t138 _ A3.out).mono ?_); rintro e w6 ⟨rfl, hb⟩; refine ⟨_, rfl, ?_⟩; have n0_ := Aside0.mk (below_step (by repeat (first | (with_reducible first | exact HB.out | apply below_alloc | apply pw_below_drewN | apply below_drew1) | exact HB.out)) hb); clear HB; have HB := n0_; clear n0_; (try clear hb); (try clear hb2); (try clear hk); (try clear hi)))
    go_ret
    exact ⟨by first | rfl | (simp [errW_none, errW_some] <;> rfl) | (simp [*, errW_none, errW_some] <;> rfl), by repeat (first | (with_reducible first | exact HB.out | apply below_alloc | apply pw_below_drewN | apply below_drew1) | exact HB.out)⟩
  · rw [if_neg c4] at H
    have c4b0 : (t138.toList == ([] : List UInt8)) = false := beq_eq_false_iff_ne.mpr c4
    have c4b1 : (t138.toList != ([] : List UInt8)) = true := bne_iff_ne.mpr c4
    obtain rfl := Option.some.inj H
    go_enter Tryd.func44, Tryd.ntmps44
    go_wp2_with (first | ((with_reducible refine gate_callee (f := 26) rfl ?_); refine goesL_ (some 5) rfl rfl Tryd.func26 (by kernel_rfl) rfl #[.int .u64 a0] rfl (by (try simp only [List.map_toArray, List.map_cons, List.map_nil]); first | done | rfl | (simp only [List.length_drop, List.length_take]; rfl)) ?_; (with_reducible refine (name_Hex.calls a0 t137 _ A2.out).mono ?_); rintro e w7 ⟨rfl, hb⟩; refine ⟨_, rfl, ?_⟩; have n0_ := Aside0.mk (below_step (by repeat (first | (with_reducible first | exact HB.out | apply below_alloc | apply pw_below_drewN | apply below_drew1) | exact HB.out)) hb); clear HB; have HB := n0_; clear n0_; (try clear hb); (try clear hb2); (try clear hk); (try clear hi)) | ((with_reducible refine gate_callee (f := 57) rfl ?_); refine goesL_ (some 6) rfl rfl Tryd.func57 (by kernel_rfl) rfl #[.string t137, .string (⟨#[48]⟩ : ByteArray)] rfl (by (try simp only [List.map_toArray, List.map_cons, List.map_nil]); first | done | rfl | (simp only [List.length_drop, List.length_take]; rfl)) ?_; (with_reducible refine (strings_TrimLeft.calls k t137 (⟨#[48]⟩ : ByteArray) t138 _ A3.out).mono ?_); rintro e w8 ⟨rfl, hb⟩; refine ⟨_, rfl, ?_⟩; have n0_ := Aside0.mk (below_step (by repeat (first | (with_reducible first | exact HB.out | apply below_alloc | apply pw_below_drewN | apply below_drew1) | exact HB.out)) hb); clear HB; have HB := n0_; clear n0_; (try clear hb); (try clear hb2); (try clear hk); (try clear hi)))
    go_ret
    exact ⟨by first | rfl | (simp [errW_none, errW_some] <;> rfl) | (simp [*, errW_none, errW_some] <;> rfl), by repeat (first | (with_reducible first | exact HB.out | apply below_alloc | apply pw_below_drewN | apply below_drew1) | exact HB.out)⟩

-- GIVEN rounds=0 making=1 bld
/-! ### strings.Join: out of the shelf's contract -/
def joinL (sep : List Int) : List ByteArray → List Int
  | [] => []
  | [x] => bytesOf x
  | x :: y :: r => bytesOf x ++ sep ++ joinL sep (y :: r)
def strings_Join.f (l0 : List ByteArray) (a1 : ByteArray) : Option (ByteArray) := if l0.length ≤ 140737488355328 ∧ (joinL (bytesOf a1) l0).length ≤ 140737488355328 then some (strOfNums (joinL (bytesOf a1) l0)) else none
theorem plain_addr {w : World} {ad : Addr} {u : Value} (h : w.cell? ad = some u) : ad = ⟨ad.block, ad.off, none⟩ ∧ ad.block < w.heap.size := by
  unfold World.cell? at h
  split at h
  · rename_i c e f hb
    have hlt : ad.block < w.heap.size := (Array.getElem?_eq_some_iff.1 hb).1
    cases hs : ad.spot with
    | none => exact ⟨by cases ad; simp only at hs; rw [hs], hlt⟩
    | some x => simp [hs] at h
  · simp at h
theorem add_plain' (b o j : Nat) : (⟨b, o, none⟩ : Addr).add j = ⟨b, o + j, none⟩ := by
  unfold Addr.add
  by_cases h : j = 0 <;> simp [h]
theorem joinL_eq (sep : ByteArray) : ∀ l : List ByteArray, strOfNums (joinL (bytesOf sep) l) = ⟨(Lib.join (l.map (·.data.toList)) sep.data.toList).toArray⟩ := by
  have str : ∀ l : List UInt8, strOfNums (l.map fun b => (b.toNat : Int)) = ⟨l.toArray⟩ := fun l => by
    unfold strOfNums
    rw [List.map_map]
    congr 2
    conv => rhs; rw [← List.map_id l]
    exact List.map_congr_left fun b _ => by simp
  have key : ∀ l : List ByteArray, joinL (bytesOf sep) l = (Lib.join (l.map (·.data.toList)) sep.data.toList).map fun b => (b.toNat : Int) := by
    intro l
    induction l with
    | nil => rfl
    | cons x l ih =>
      cases l with
      | nil =>
        rw [List.map_cons, List.map_nil, Lib.join_one]
        rfl
      | cons y r =>
        rw [List.map_cons, List.map_cons, Lib.join_cons]
        show bytesOf x ++ bytesOf sep ++ joinL (bytesOf sep) (y :: r) = _
        rw [ih, List.map_cons, Lib.join_cons]
        simp [Lib.joinTail, bytesOf]
  intro l
  rw [key, str]
theorem strings_Join.calls (A0 : Option Addr) (c0 : Nat) (l0 : List (ByteArray)) (a1 : ByteArray) (r : ByteArray) (w : World) (hr0 : Kd.C Kd.string w A0 l0.length l0) (hc0 : l0.length ≤ c0) (h : strings_Join.f l0 a1 = some r) :
    Calls Tryd.prog 45 #[.slice A0 l0.length c0, .string a1] w fun e w' => e = .returned (.string r) ∧ Below w.heap.size w w' := by
  unfold strings_Join.f at h
  by_cases hb : l0.length ≤ 140737488355328 ∧ (joinL (bytesOf a1) l0).length ≤ 140737488355328
  case neg => rw [if_neg hb] at h; cases h
  rw [if_pos hb] at h
  obtain rfl := Option.some.inj h
  match l0, hr0, hc0, hb with
  | [], hr0, hc0, hb =>
    refine (Tryd.strings_Join_none A0 c0 a1 w).mono ?_
    rintro e w' ⟨rfl, rfl⟩
    exact ⟨rfl, Below.refl _ _⟩
  | x :: l, hr0, hc0, hb =>
    obtain ⟨ad, rfl, hcell⟩ := hr0.2.2 (by simp)
    have one : ∀ (j : Nat) y, (x :: l)[j]? = some y → w.cell? (ad.add j) = some (.string y) := by
      intro j y hj
      obtain ⟨c, h1, h2, h3⟩ := hcell j y hj
      have h4 : c = [.string y] := h2
      have := h3 0 (.string y) (by rw [h4]; rfl)
      simpa [Kd.string, Kd.scalar] using this
    obtain ⟨h5, h6⟩ := plain_addr (one 0 x rfl)
    have h7 : ad = ⟨ad.block, ad.off, none⟩ := by
      have : ad.add 0 = ad := by simp [Addr.add]
      rw [this] at h5
      exact h5
    rw [joinL_eq]
    have hlen : (Lib.join ((x :: l).map (·.data.toList)) a1.data.toList).length ≤ 140737488355328 := by
      have h8 := congrArg ByteArray.size (joinL_eq a1 (x :: l))
      have h9 : (strOfNums (joinL (bytesOf a1) (x :: l))).size = (joinL (bytesOf a1) (x :: l)).length := by
        show (List.map _ _).toArray.size = _
        simp
      rw [h9] at h8
      have h10 : (⟨(Lib.join ((x :: l).map (·.data.toList)) a1.data.toList).toArray⟩ : ByteArray).size = (Lib.join ((x :: l).map (·.data.toList)) a1.data.toList).length := by
        show (List.toArray _).size = _
        simp
      rw [h10] at h8
      omega
    rw [h7]
    refine (Tryd.strings_Join ad.block ad.off c0 (x :: l) a1 w (fun j y hj => ?_) ?_ hb.1 hc0 hlen).mono ?_
    · have := one j y hj
      rw [h7, add_plain'] at this
      exact this
    · have : ad.add 0 = ad := by simp [Addr.add]
      rw [this] at h6
      exact h6
    · rintro e w' ⟨rfl, hbl⟩
      exact ⟨rfl, hbl⟩

end Go.Proofs.YtbbegchdlkmebaaDoor.PExportWrites
