-- LAID BY gprint.py: a scratch copy of the print, with functions that this session proved by hand among the printed ones
import Derived.Test.YtbakfpiflcaacaaPFormatTablesx0
import Derived.Test.YtbakfpiflcaacaaPFormatTablesx2
namespace Go.Proofs.Ytbakfpiflcaacaa.PFormatTables
open Go.RowKit Go.Proofs.YtbakfpiflcaacaaW.PrintWords Go.Proofs.YtbakfpiflcaacaaW.PrintLast Go.Proofs.Ytbakfpiflcaacaa.Conv Go.Proofs.Ytbakfpiflcaacaa.Bld Go.Proofs.YtbakfpiflcaacaaW.PrintMore
attribute [local go_sem] max2_int min2_int max_two min_two max_three min_three max_four min_four gtr_less   -- for this text's walks alone
set_option linter.unusedVariables false
set_option linter.unusedSimpArgs false

-- GIVEN rounds=1 making=1 bld needs=strings.Repeat
theorem strCells_append (a b : ByteArray) : Lib.strCells (a ++ b) = Lib.strCells a ++ Lib.strCells b := by
  unfold Lib.strCells
  rw [← List.map_append]
  congr 1
theorem tinfo3 : (Try.prog.info? 3).map (fun i => (i.zero, i.size, i.bytes)) = some (some (.int .i64 0), 1, 8) := by kernel_rfl
theorem tbld_text (B b : Nat) (s : ByteArray) (w : World) (h : Lib.IsBuilder 59 5 B b (Lib.strCells s) w) (hBw : B ≤ w.heap.size) :
    Calls Try.prog 40 #[.pointer (some ⟨b, 0, none⟩)] w fun e w' => e = .returned (.string s) ∧ Below B w w' := by
  rw [Lib.strCells_eq] at h
  exact Try.Builder_String_any B b _ w h hBw
/-! ### format_Table: function 21 -/
mutual
def format_Table.l0 : Nat → List (List ByteArray) → List Int → List (List ByteArray) → Int → Int → Option (List ByteArray)
  | 0, _, _, _, _, _ => none
  | k + 1, x0, x3, x14, x15, x16 => if x16 < x15 then (if 0 ≤ x16 then (if x16 < (x14.length : Int) then (format_Table.l1 k x0 x3 x14 x15 x16 (rd_L6 x14 x16) ((rd_L6 x14 x16).length : Int) 0) else (none)) else (none)) else (format_Table.l2 k x3 ([] : List ByteArray) x0 (x0.length : Int) 0)
def format_Table.l1 : Nat → List (List ByteArray) → List Int → List (List ByteArray) → Int → Int → List ByteArray → Int → Int → Option (List ByteArray)
  | 0, _, _, _, _, _, _, _, _ => none
  | k + 1, x0, x3, x14, x15, x16, x20, x21, x22 => if x22 < x21 then (if 0 ≤ x22 then (if x22 < (x20.length : Int) then (if x22 = (x3.length : Int) then (if x3.length < 17592186044416 then ((some (x3 ++ [0] : List Int)).bind fun y133 => (if x22 < (y133.length : Int) then (format_Table.l1 k x0 (y133.set (x22 : Int).toNat (mx (rd y133 x22) ((rdOf ByteArray.empty x20 x22).size : Int))) x14 x15 x16 x20 x21 (wrap64 (x22 + 1))) else (none))) else (none)) else (if x22 < (x3.length : Int) then (format_Table.l1 k x0 (x3.set (x22 : Int).toNat (mx (rd x3 x22) ((rdOf ByteArray.empty x20 x22).size : Int))) x14 x15 x16 x20 x21 (wrap64 (x22 + 1))) else (none))) else (none)) else (none)) else (format_Table.l0 k x0 x3 x14 x15 (wrap64 (x16 + 1)))
def format_Table.l2 : Nat → List Int → List ByteArray → List (List ByteArray) → Int → Int → Option (List ByteArray)
  | 0, _, _, _, _, _ => none
  | k + 1, x3, x8, x46, x47, x48 => if x48 < x47 then (if 0 ≤ x48 then (if x48 < (x46.length : Int) then (format_Table.l3 k x3 x8 (rd_L6 x46 x48) (⟨#[]⟩ : ByteArray) x46 x47 x48 (rd_L6 x46 x48) ((rd_L6 x46 x48).length : Int) 0) else (none)) else (none)) else (some x8)
def format_Table.l3 : Nat → List Int → List ByteArray → List ByteArray → ByteArray → List (List ByteArray) → Int → Int → List ByteArray → Int → Int → Option (List ByteArray)
  | 0, _, _, _, _, _, _, _, _, _, _ => none
  | k + 1, x3, x8, x10, x11, x46, x47, x48, x52, x53, x54 => if x54 < x53 then (if 0 ≤ x54 then (if x54 < (x52.length : Int) then (if x11.size + (rdOf ByteArray.empty x52 x54).size ≤ 140737488355327 then (if x54 < (wrap64 ((x10.length : Int) - 1)) then (if x54 < (x3.length : Int) then ((strings_Repeat.f (⟨#[32]⟩ : ByteArray) (wrap64 ((wrap64 ((rd x3 x54) - ((rdOf ByteArray.empty x52 x54).size : Int))) + 2))).bind fun t143 => (if x11.size + (rdOf ByteArray.empty x52 x54).size + t143.size ≤ 140737488355327 then (format_Table.l3 k x3 x8 x10 ((x11 ++ (rdOf ByteArray.empty x52 x54)) ++ t143) x46 x47 x48 x52 x53 (wrap64 (x54 + 1))) else (none))) else (none)) else (format_Table.l3 k x3 x8 x10 (x11 ++ (rdOf ByteArray.empty x52 x54)) x46 x47 x48 x52 x53 (wrap64 (x54 + 1)))) else (none)) else (none)) else (none)) else (if x8.length < 8796093022208 then (format_Table.l2 k x3 (x8 ++ [x11]) x46 x47 (wrap64 (x48 + 1))) else (none))
end
def format_Table.f (k : Nat) (l0 : List (List ByteArray)) : Option (List ByteArray) := format_Table.l0 k l0 ([] : List Int) l0 (l0.length : Int) 0
theorem format_Table.mono_l : ∀ k, (∀ y0 y1 y2 y3 y4, LeO (format_Table.l0 k y0 y1 y2 y3 y4) (format_Table.l0 (k + 1) y0 y1 y2 y3 y4)) ∧ (∀ y0 y1 y2 y3 y4 y5 y6 y7, LeO (format_Table.l1 k y0 y1 y2 y3 y4 y5 y6 y7) (format_Table.l1 (k + 1) y0 y1 y2 y3 y4 y5 y6 y7)) ∧ (∀ y0 y1 y2 y3 y4, LeO (format_Table.l2 k y0 y1 y2 y3 y4) (format_Table.l2 (k + 1) y0 y1 y2 y3 y4)) ∧ (∀ y0 y1 y2 y3 y4 y5 y6 y7 y8 y9, LeO (format_Table.l3 k y0 y1 y2 y3 y4 y5 y6 y7 y8 y9) (format_Table.l3 (k + 1) y0 y1 y2 y3 y4 y5 y6 y7 y8 y9))
  | 0 => ⟨fun _ _ _ _ _ r h => by simp [format_Table.l0] at h, fun _ _ _ _ _ _ _ _ r h => by simp [format_Table.l1] at h, fun _ _ _ _ _ r h => by simp [format_Table.l2] at h, fun _ _ _ _ _ _ _ _ _ _ r h => by simp [format_Table.l3] at h⟩
  | k + 1 => by
    obtain ⟨ih0, ih1, ih2, ih3⟩ := format_Table.mono_l k
    refine ⟨?_, ?_, ?_, ?_⟩
    · intro y0 y1 y2 y3 y4
      unfold format_Table.l0
      repeat' first
      | (with_reducible exact ih0 _ _ _ _ _)
      | (with_reducible exact ih1 _ _ _ _ _ _ _ _)
      | (with_reducible exact ih2 _ _ _ _ _)
      | (with_reducible exact ih3 _ _ _ _ _ _ _ _ _ _)
      | (with_reducible exact LeO.refl _)
      | (with_reducible exact LeO.none _)
      | (with_reducible refine LeO.ite ?_ ?_)
      | (with_reducible refine LeO.bind ?_ (fun _ => ?_))
      | exact ih0 _ _ _ _ _
      | exact ih1 _ _ _ _ _ _ _ _
      | exact ih2 _ _ _ _ _
      | exact ih3 _ _ _ _ _ _ _ _ _ _
      | exact LeO.none _
      | refine LeO.ite ?_ ?_
      | refine LeO.bind ?_ (fun _ => ?_)
    · intro y0 y1 y2 y3 y4 y5 y6 y7
      unfold format_Table.l1
      repeat' first
      | (with_reducible exact ih0 _ _ _ _ _)
      | (with_reducible exact ih1 _ _ _ _ _ _ _ _)
      | (with_reducible exact ih2 _ _ _ _ _)
      | (with_reducible exact ih3 _ _ _ _ _ _ _ _ _ _)
      | (with_reducible exact LeO.refl _)
      | (with_reducible exact LeO.none _)
      | (with_reducible refine LeO.ite ?_ ?_)
      | (with_reducible refine LeO.bind ?_ (fun _ => ?_))
      | exact ih0 _ _ _ _ _
      | exact ih1 _ _ _ _ _ _ _ _
      | exact ih2 _ _ _ _ _
      | exact ih3 _ _ _ _ _ _ _ _ _ _
      | exact LeO.none _
      | refine LeO.ite ?_ ?_
      | refine LeO.bind ?_ (fun _ => ?_)
    · intro y0 y1 y2 y3 y4
      unfold format_Table.l2
      repeat' first
      | (with_reducible exact ih0 _ _ _ _ _)
      | (with_reducible exact ih1 _ _ _ _ _ _ _ _)
      | (with_reducible exact ih2 _ _ _ _ _)
      | (with_reducible exact ih3 _ _ _ _ _ _ _ _ _ _)
      | (with_reducible exact LeO.refl _)
      | (with_reducible exact LeO.none _)
      | (with_reducible refine LeO.ite ?_ ?_)
      | (with_reducible refine LeO.bind ?_ (fun _ => ?_))
      | exact ih0 _ _ _ _ _
      | exact ih1 _ _ _ _ _ _ _ _
      | exact ih2 _ _ _ _ _
      | exact ih3 _ _ _ _ _ _ _ _ _ _
      | exact LeO.none _
      | refine LeO.ite ?_ ?_
      | refine LeO.bind ?_ (fun _ => ?_)
    · intro y0 y1 y2 y3 y4 y5 y6 y7 y8 y9
      unfold format_Table.l3
      repeat' first
      | (with_reducible exact ih0 _ _ _ _ _)
      | (with_reducible exact ih1 _ _ _ _ _ _ _ _)
      | (with_reducible exact ih2 _ _ _ _ _)
      | (with_reducible exact ih3 _ _ _ _ _ _ _ _ _ _)
      | (with_reducible exact LeO.refl _)
      | (with_reducible exact LeO.none _)
      | (with_reducible refine LeO.ite ?_ ?_)
      | (with_reducible refine LeO.bind ?_ (fun _ => ?_))
      | exact ih0 _ _ _ _ _
      | exact ih1 _ _ _ _ _ _ _ _
      | exact ih2 _ _ _ _ _
      | exact ih3 _ _ _ _ _ _ _ _ _ _
      | exact LeO.none _
      | refine LeO.ite ?_ ?_
      | refine LeO.bind ?_ (fun _ => ?_)
theorem format_Table.mono : ∀ a0 k, LeO (format_Table.f k a0) (format_Table.f (k + 1) a0) := by
  intro a0 k
  obtain ⟨ih0, ih1, ih2, ih3⟩ := format_Table.mono_l k
  unfold format_Table.f
  repeat' first
      | (with_reducible exact ih0 _ _ _ _ _)
      | (with_reducible exact ih1 _ _ _ _ _ _ _ _)
      | (with_reducible exact ih2 _ _ _ _ _)
      | (with_reducible exact ih3 _ _ _ _ _ _ _ _ _ _)
      | (with_reducible exact LeO.refl _)
      | (with_reducible exact LeO.none _)
      | (with_reducible refine LeO.ite ?_ ?_)
      | (with_reducible refine LeO.bind ?_ (fun _ => ?_))
      | exact ih0 _ _ _ _ _
      | exact ih1 _ _ _ _ _ _ _ _
      | exact ih2 _ _ _ _ _
      | exact ih3 _ _ _ _ _ _ _ _ _ _
      | exact LeO.none _
      | refine LeO.ite ?_ ?_
      | refine LeO.bind ?_ (fun _ => ?_)
set_option maxHeartbeats 8000000 in
set_option maxRecDepth 100000 in
theorem format_Table.calls (k : Nat) (A0 : Option Addr) (c0 : Nat) (l0 : List (List ByteArray)) (r : List ByteArray) (w : World) (hr0 : Kd.C (Kd.slice 9 Kd.string) w A0 l0.length l0) (hc0 : l0.length ≤ c0) (h : format_Table.f k l0 = some r) :
    Calls Try.prog 21 #[.slice A0 l0.length c0] w fun e w' => ∃ v0_ : Value, e = .returned (v0_) ∧ Kd.R Kd.string 9 w' w.heap.size (fun _ => True) v0_ r ∧ Below w.heap.size w w' := by
  have HR0 := Aside0.mk hr0
  have HC0 := Aside0.mk hc0
  clear hr0 hc0
  have HB := Aside0.mk (Below.refl w.heap.size w)
  have H : (format_Table.l0 k l0 ([] : List Int) l0 (l0.length : Int) 0) = some r := h
  clear h
  have H' := Aside0.mk H
  clear H
  go_enter Try.func21, Try.ntmps21
  go_wp2
  go_loopg [3, 16] k (fun kq v3 v16 w' => ∃ (x3_1 : List Int) (x16_1 : Int), v16 = .int .i64 x16_1 ∧ Aside0 (format_Table.l0 kq l0 x3_1 l0 (l0.length : Int) x16_1 = some r) ∧ Aside0 (kq ≤ k) ∧ Aside0 (Kd.R (Kd.int .i64) 3 w' w.heap.size (fun _ => True) v3 x3_1) ∧ Aside0 (Below w.heap.size w w'))
  case atStart => exact ⟨(([] : List Int)), (0), (by first | rfl | (simp; done) | (simp [*]; done) | exact isEmpty_bne _), H', ⟨Nat.le_refl _⟩, ⟨by first | exact Kd.R_nil _ _ _ _ _ | exact Kd.N_nil _ _ _ _ _ | exact Kd.V_nil _ _ _ _ _ | exact Kd.Q_nil _ _ _ _ _ | exact Kd.S_nil _ _ _ _ _⟩, ⟨by repeat (first | (with_reducible first | exact HB.out | apply below_alloc | apply pw_below_drewN | apply below_drew1) | exact HB.out)⟩⟩
  case round =>
    clear H'
    obtain ⟨x3_1, x16_1, rfl, HA, HK1, HO_3, HB⟩ := hrel
    cases gk with
    | zero => exact absurd HA.out (by simp [format_Table.l0])
    | succ k1 =>
      have H := HA.out
      clear HA
      simp only [format_Table.l0] at H
      by_cases c2 : x16_1 < (l0.length : Int)
      · rw [if_pos c2] at H
        have c2b0 : decide (x16_1 < (l0.length : Int)) = true := decide_eq_true c2
        clear c2
        by_cases c3 : 0 ≤ x16_1
        · rw [if_pos c3] at H
          have c3b0 : decide (0 ≤ x16_1) = true := decide_eq_true c3
          clear c3
          by_cases c4 : x16_1 < (l0.length : Int)
          · rw [if_pos c4] at H
            have c4b0 : decide (x16_1 < (l0.length : Int)) = true := decide_eq_true c4
            clear c4
            have H' := Aside0.mk H
            clear H
            have p131 : 0 ≤ (x16_1 : Int) := of_decide_eq_true (by first | (with_reducible assumption) | assumption)
            have q131 : x16_1 < (l0.length : Int) := of_decide_eq_true (by first | (with_reducible assumption) | assumption)
            obtain ⟨ad131, A131_0, c131_0, e131, hx131_0, hl131_0, hi131_0⟩ := at_L6 HR0.out x16_1 p131 q131
            cases e131
            replace hx131_0 := (HB.out.cell (World.block_lt_of_cell? w _ hx131_0)).trans hx131_0
            have HR131_0 := Aside0.mk hi131_0
            have HC131_0 := Aside0.mk hl131_0
            clear hi131_0 hl131_0
            replace p131 := eq_true p131
            replace q131 := eq_true q131
            go_wp2
            go_loopg [3, 22] k1 (fun kq v3 v22 w' => ∃ (x3_2 : List Int) (x22_2 : Int), v22 = .int .i64 x22_2 ∧ Aside0 (format_Table.l1 kq l0 x3_2 l0 (l0.length : Int) x16_1 (rd_L6 l0 x16_1) ((rd_L6 l0 x16_1).length : Int) x22_2 = some r) ∧ Aside0 (kq ≤ k1) ∧ Aside0 (Kd.R (Kd.int .i64) 3 w' w.heap.size (fun _ => True) v3 x3_2) ∧ Aside0 (Below w.heap.size w w'))
            case atStart => exact ⟨(x3_1), (0), (by first | rfl | (simp; done) | (simp [*]; done) | exact isEmpty_bne _), H', ⟨Nat.le_refl _⟩, ⟨by (with_reducible repeat (first | apply Kd.R_alloc | apply Kd.R_drewN | apply Kd.R_drew)); exact HO_3.out⟩, ⟨by repeat (first | (with_reducible first | exact HB.out | apply below_alloc | apply pw_below_drewN | apply below_drew1) | exact HB.out)⟩⟩
            case round =>
              clear H'
              try clear c1
              try clear p1
              try clear q1
              try clear hx1
              try clear c2
              try clear c2b0
              try clear p2
              try clear c3
              try clear c3b0
              try clear c4
              try clear c4b0
              try clear hx131_0
              try clear p131
              try clear q131
              obtain ⟨x3_2, x22_2, rfl, HA, HK2, HO_3, HB⟩ := hrel
              cases gk with
              | zero => exact absurd HA.out (by simp [format_Table.l1])
              | succ k2 =>
                have H := HA.out
                clear HA
                simp only [format_Table.l1] at H
                by_cases c5 : x22_2 < ((rd_L6 l0 x16_1).length : Int)
                · rw [if_pos c5] at H
                  have c5b0 : decide (x22_2 < ((rd_L6 l0 x16_1).length : Int)) = true := decide_eq_true c5
                  clear c5
                  by_cases c6 : 0 ≤ x22_2
                  · rw [if_pos c6] at H
                    have c6b0 : decide (0 ≤ x22_2) = true := decide_eq_true c6
                    clear c6
                    by_cases c7 : x22_2 < ((rd_L6 l0 x16_1).length : Int)
                    · rw [if_pos c7] at H
                      have c7b0 : decide (x22_2 < ((rd_L6 l0 x16_1).length : Int)) = true := decide_eq_true c7
                      clear c7
                      by_cases c8 : x22_2 = (x3_2.length : Int)
                      · rw [if_pos c8] at H
                        have c8b0 : (x22_2 == (x3_2.length : Int)) = true := beq_iff_eq.mpr c8
                        have c8b1 : (x22_2 != (x3_2.length : Int)) = false := bne_eq_false_iff_eq.mpr c8
                        clear c8
                        by_cases c9 : x3_2.length < 17592186044416
                        · rw [if_pos c9] at H
                          have LMc9 := Aside0.mk c9
                          clear c9
                          obtain ⟨y133, hy133⟩ : ∃ y_ : List Int, y_ = (x3_2 ++ [0]) := ⟨_, rfl⟩
                          replace H : (if x22_2 < (y133.length : Int) then (format_Table.l1 k2 l0 (y133.set (x22_2 : Int).toNat (mx (rd y133 x22_2) ((rdOf ByteArray.empty (rd_L6 l0 x16_1) x22_2).size : Int))) l0 (l0.length : Int) x16_1 (rd_L6 l0 x16_1) ((rd_L6 l0 x16_1).length : Int) (wrap64 (x22_2 + 1))) else (none)) = some r := by first | (rw [hy133]; with_reducible exact H) | (have H2_ := (Option.bind_some _ _).symm.trans H; rw [hy133]; with_reducible exact H2_) | (have H2_ := (Option.bind_some _ _).symm.trans H; with_reducible exact H2_) | with_reducible exact H | (rw [hy133]; exact H) | exact H
                          have Ny133 := Aside0.mk hy133
                          clear hy133
                          by_cases c10 : x22_2 < (y133.length : Int)
                          · rw [if_pos c10] at H
                            have c10b0 : decide (x22_2 < (y133.length : Int)) = true := decide_eq_true c10
                            clear c10
                            obtain ⟨ji11, hji11⟩ : ∃ j_ : Int, (mx (rd y133 x22_2) ((rdOf ByteArray.empty (rd_L6 l0 x16_1) x22_2).size : Int)) = j_ := ⟨_, rfl⟩
                            replace H : (format_Table.l1 k2 l0 (y133.set (x22_2 : Int).toNat (ji11)) l0 (l0.length : Int) x16_1 (rd_L6 l0 x16_1) ((rd_L6 l0 x16_1).length : Int) (wrap64 (x22_2 + 1))) = some r := by first | (rw [hji11] at H; exact H) | (simp only [hji11] at H ⊢; exact H)
                            have hji11_ : (if (rd y133 x22_2) < ((rdOf ByteArray.empty (rd_L6 l0 x16_1) x22_2).size : Int) then ((rdOf ByteArray.empty (rd_L6 l0 x16_1) x22_2).size : Int) else (rd y133 x22_2)) = ji11 := hji11
                            obtain ⟨y137, hy137⟩ : ∃ y_ : List Int, y_ = (y133.set (x22_2 : Int).toNat (ji11)) := ⟨_, rfl⟩
                            replace H : (format_Table.l1 k2 l0 y137 l0 (l0.length : Int) x16_1 (rd_L6 l0 x16_1) ((rd_L6 l0 x16_1).length : Int) (wrap64 (x22_2 + 1))) = some r := by first | (rw [hy137]; with_reducible exact H) | (have H2_ := (Option.bind_some _ _).symm.trans H; rw [hy137]; with_reducible exact H2_) | (have H2_ := (Option.bind_some _ _).symm.trans H; with_reducible exact H2_) | with_reducible exact H | (rw [hy137]; exact H) | exact H
                            have Ny137 := Aside0.mk hy137
                            clear hy137
                            have H' := Aside0.mk H
                            clear H
                            have p132 : 0 ≤ (x22_2 : Int) := of_decide_eq_true (by first | (with_reducible assumption) | assumption)
                            have q132 : x22_2 < ((rd_L6 l0 x16_1).length : Int) := of_decide_eq_true (by first | (with_reducible assumption) | assumption)
                            obtain ⟨ad132, e132, hx132_0⟩ := Kd.at_string HR131_0.out x22_2 p132 q132
                            cases e132
                            replace hx132_0 := (HB.out.cell (World.block_lt_of_cell? w _ hx132_0)).trans hx132_0
                            replace p132 := eq_true p132
                            replace q132 := eq_true q132
                            obtain ⟨Ao13, co13, eo13⟩ := Kd.R_slice HO_3.out
                            subst eo13
                            go_wp2_with (first | ((with_reducible refine gate_builtin (b := .append) (xs := #[.tmp 31, .tmp 32]) rfl ?_); at_builtin; refine Kd.R_append (Kd.int .i64) (w0 := w) w.heap.size rfl (.tmp 31) (.tmp 32) 56 3 (.int .i64 0) 8 rfl Try.underlying56 tinfo3 rfl (by decide) (by omega) (.slice Ao13 x3_2.length co13) x3_2 0 [.int .i64 0] (fun _ => True) (fun _ => False) rfl rfl ?aP (fun _ hk => hk.elim) ?aF ?aO ?aB ?aS ?aL ?_; (case aP => exact rfl); (case aB => exact (by repeat (first | (with_reducible first | exact HB.out | apply below_alloc | apply pw_below_drewN | apply below_drew1) | exact HB.out))); (case aF => exact (fun _ _ => trivial)); (case aO => exact (by (with_reducible repeat (first | apply Kd.R_alloc | apply Kd.R_drewN | apply Kd.R_drew)); exact HO_3.out)); (case aS => exact (below_size (by repeat (first | (with_reducible first | exact HB.out | apply below_alloc | apply pw_below_drewN | apply below_drew1) | exact HB.out)))); (case aL => have := LMc9.out; omega); intro v134 w14 ho hb hg hat; rw [← Ny133.out] at ho; have n0_ := Aside0.mk (hb); have n1_ := Aside0.mk (ho); clear HB; clear HO_3; have HB := n0_; have HO135 := n1_; clear n0_ n1_; clear ho hb hg hat; obtain ⟨Ao15, co15, eo15⟩ := Kd.R_slice HO135.out; subst eo15; have p136 : 0 ≤ (x22_2 : Int) := of_decide_eq_true (by first | (with_reducible assumption) | assumption); have q136 : x22_2 < (y133.length : Int) := of_decide_eq_true (by first | (with_reducible assumption) | assumption); obtain ⟨ad136, e136, hx136_0⟩ := Kd.at_int (Kd.R_reads' HO135.out).2.2 x22_2 p136 q136; cases e136; replace p136 := eq_true p136; replace q136 := eq_true q136; have p12 : 0 ≤ (x22_2 : Int) := of_decide_eq_true (by first | (with_reducible assumption) | assumption); have q12 : (x22_2 : Int) < ((y133.length : Int) : Int) := of_decide_eq_true (by first | (with_reducible assumption) | assumption); obtain ⟨go12, co12, eo12, gb12, gl12, cl12, HG12⟩ := Kd.R_form HO135.out (by omega); (first | cases eo12 | (injection eo12 with ea_ en_ ec_; (first | subst ea_ | (injection ea_ with ea_; subst ea_)); subst ec_; clear en_)); have GB12 := Aside0.mk gb12; have GG12 := Aside0.mk HG12; clear gb12 gl12 HG12; (first | simp only [add_plain] at hx136_0 | skip); obtain ⟨hx12_0, hf12_0⟩ := Kd.R_celln 0 HO135.out (x22_2 : Int) p12 q12; replace p12 := eq_true p12; replace q12 := eq_true q12; obtain ⟨hy16_, hz16_⟩ := Kd.R_celln 0 HO135.out (x22_2 : Int) (of_decide_eq_true (by first | (with_reducible assumption) | assumption)) (of_decide_eq_true (by first | (with_reducible assumption) | assumption)); have HP16 := Kd.R_putg HO135.out (x22_2 : Int) ji11) | ((with_reducible refine gate_store (t := 3) (p := 43) rfl ?_); refine store_event (t := 3) (p := 43) (v := ?vo_w17) (w1 := (w14.setCell ⟨go12, (x22_2 : Int).toNat, none⟩ (.int .i64 ji11))) ?hg ?ho ?hn ?hr ?_; (case ho => rfl); (case hg => rfl); (case hn => rfl); (case hr => first | (go_simp; done) | (go_simp; rfl)); intro w17 hw; have hg : w14.grownBy w17 (some go12) := (by rw [hw]; exact HP16.2); (try (have ln_w17 := congrArg List.length Ny137.out; rw [List.length_set] at ln_w17)); have hp_ : Kd.R (Kd.int .i64) 3 w17 w.heap.size (fun _ => True) (.slice (some ⟨go12, 0, none⟩) y133.length co15) y137 := (by rw [hw, Ny137.out]; exact HP16.1); clear HP16; have n0_ := Aside0.mk (hp_); have n1_ := Aside0.mk ((by rw [hw]; exact below_set (HB.out) GB12.out : Below w.heap.size w w17)); clear HO135; clear HB; have HO135 := n0_; have HB := n1_; clear n0_ n1_; clear hg hw hp_))
                            go_roundg k2
                            case measure => have := HK1.out; have := HK2.out; omega
                            case rel => exact ⟨(y137), (wrap64 (x22_2 + 1)), (by first | rfl | (simp; done) | (simp [*]; done) | exact isEmpty_bne _), H', ⟨by have := HK1.out; have := HK2.out; omega⟩, ⟨by (with_reducible repeat (first | apply Kd.R_alloc | apply Kd.R_drewN | apply Kd.R_drew)); exact HO135.out⟩, ⟨by repeat (first | (with_reducible first | exact HB.out | apply below_alloc | apply pw_below_drewN | apply below_drew1) | exact HB.out)⟩⟩
                          · rw [if_neg c10] at H
                            exact absurd H (by simp)
                        · rw [if_neg c9] at H
                          exact absurd H (by simp)
                      · rw [if_neg c8] at H
                        have c8b0 : (x22_2 == (x3_2.length : Int)) = false := beq_eq_false_iff_ne.mpr c8
                        have c8b1 : (x22_2 != (x3_2.length : Int)) = true := bne_iff_ne.mpr c8
                        by_cases c18 : x22_2 < (x3_2.length : Int)
                        · rw [if_pos c18] at H
                          have c18b0 : decide (x22_2 < (x3_2.length : Int)) = true := decide_eq_true c18
                          clear c18
                          obtain ⟨ji19, hji19⟩ : ∃ j_ : Int, (mx (rd x3_2 x22_2) ((rdOf ByteArray.empty (rd_L6 l0 x16_1) x22_2).size : Int)) = j_ := ⟨_, rfl⟩
                          replace H : (format_Table.l1 k2 l0 (x3_2.set (x22_2 : Int).toNat (ji19)) l0 (l0.length : Int) x16_1 (rd_L6 l0 x16_1) ((rd_L6 l0 x16_1).length : Int) (wrap64 (x22_2 + 1))) = some r := by first | (rw [hji19] at H; exact H) | (simp only [hji19] at H ⊢; exact H)
                          have hji19_ : (if (rd x3_2 x22_2) < ((rdOf ByteArray.empty (rd_L6 l0 x16_1) x22_2).size : Int) then ((rdOf ByteArray.empty (rd_L6 l0 x16_1) x22_2).size : Int) else (rd x3_2 x22_2)) = ji19 := hji19
                          obtain ⟨y139, hy139⟩ : ∃ y_ : List Int, y_ = (x3_2.set (x22_2 : Int).toNat (ji19)) := ⟨_, rfl⟩
                          replace H : (format_Table.l1 k2 l0 y139 l0 (l0.length : Int) x16_1 (rd_L6 l0 x16_1) ((rd_L6 l0 x16_1).length : Int) (wrap64 (x22_2 + 1))) = some r := by first | (rw [hy139]; with_reducible exact H) | (have H2_ := (Option.bind_some _ _).symm.trans H; rw [hy139]; with_reducible exact H2_) | (have H2_ := (Option.bind_some _ _).symm.trans H; with_reducible exact H2_) | with_reducible exact H | (rw [hy139]; exact H) | exact H
                          have Ny139 := Aside0.mk hy139
                          clear hy139
                          have H' := Aside0.mk H
                          clear H
                          have p132 : 0 ≤ (x22_2 : Int) := of_decide_eq_true (by first | (with_reducible assumption) | assumption)
                          have q132 : x22_2 < ((rd_L6 l0 x16_1).length : Int) := of_decide_eq_true (by first | (with_reducible assumption) | assumption)
                          obtain ⟨ad132, e132, hx132_0⟩ := Kd.at_string HR131_0.out x22_2 p132 q132
                          cases e132
                          replace hx132_0 := (HB.out.cell (World.block_lt_of_cell? w _ hx132_0)).trans hx132_0
                          replace p132 := eq_true p132
                          replace q132 := eq_true q132
                          obtain ⟨Ao21, co21, eo21⟩ := Kd.R_slice HO_3.out
                          subst eo21
                          have p138 : 0 ≤ (x22_2 : Int) := of_decide_eq_true (by first | (with_reducible assumption) | assumption)
                          have q138 : x22_2 < (x3_2.length : Int) := of_decide_eq_true (by first | (with_reducible assumption) | assumption)
                          obtain ⟨ad138, e138, hx138_0⟩ := Kd.at_int (Kd.R_reads' HO_3.out).2.2 x22_2 p138 q138
                          cases e138
                          replace p138 := eq_true p138
                          replace q138 := eq_true q138
                          have p20 : 0 ≤ (x22_2 : Int) := of_decide_eq_true (by first | (with_reducible assumption) | assumption)
                          have q20 : (x22_2 : Int) < ((x3_2.length : Int) : Int) := of_decide_eq_true (by first | (with_reducible assumption) | assumption)
                          obtain ⟨go20, co20, eo20, gb20, gl20, cl20, HG20⟩ := Kd.R_form HO_3.out (by omega)
                          (first | cases eo20 | (injection eo20 with ea_ en_ ec_; (first | subst ea_ | (injection ea_ with ea_; subst ea_)); subst ec_; clear en_))
                          have GB20 := Aside0.mk gb20
                          have GG20 := Aside0.mk HG20
                          clear gb20 gl20 HG20
                          (first | simp only [add_plain] at hx138_0 | skip)
                          obtain ⟨hx20_0, hf20_0⟩ := Kd.R_celln 0 HO_3.out (x22_2 : Int) p20 q20
                          replace p20 := eq_true p20
                          replace q20 := eq_true q20
                          have HP22 := Kd.R_putg HO_3.out (x22_2 : Int) ji19
                          go_wp2_with (first | ((with_reducible refine gate_store (t := 3) (p := 43) rfl ?_); refine store_event (t := 3) (p := 43) (v := ?vo_w23) (w1 := (wr.setCell ⟨go20, (x22_2 : Int).toNat, none⟩ (.int .i64 ji19))) ?hg ?ho ?hn ?hr ?_; (case ho => rfl); (case hg => rfl); (case hn => rfl); (case hr => first | (go_simp; done) | (go_simp; rfl)); intro w23 hw; have hg : wr.grownBy w23 (some go20) := (by rw [hw]; exact HP22.2); (try (have ln_w23 := congrArg List.length Ny139.out; rw [List.length_set] at ln_w23)); have hp_ : Kd.R (Kd.int .i64) 3 w23 w.heap.size (fun _ => True) (.slice (some ⟨go20, 0, none⟩) x3_2.length co21) y139 := (by rw [hw, Ny139.out]; exact HP22.1); clear HP22; have n0_ := Aside0.mk (hp_); have n1_ := Aside0.mk ((by rw [hw]; exact below_set (HB.out) GB20.out : Below w.heap.size w w23)); clear HO_3; clear HB; have HO_3 := n0_; have HB := n1_; clear n0_ n1_; clear hg hw hp_))
                          go_roundg k2
                          case measure => have := HK1.out; have := HK2.out; omega
                          case rel => exact ⟨(y139), (wrap64 (x22_2 + 1)), (by first | rfl | (simp; done) | (simp [*]; done) | exact isEmpty_bne _), H', ⟨by have := HK1.out; have := HK2.out; omega⟩, ⟨by (with_reducible repeat (first | apply Kd.R_alloc | apply Kd.R_drewN | apply Kd.R_drew)); exact HO_3.out⟩, ⟨by repeat (first | (with_reducible first | exact HB.out | apply below_alloc | apply pw_below_drewN | apply below_drew1) | exact HB.out)⟩⟩
                        · rw [if_neg c18] at H
                          exact absurd H (by simp)
                    · rw [if_neg c7] at H
                      exact absurd H (by simp)
                  · rw [if_neg c6] at H
                    exact absurd H (by simp)
                · rw [if_neg c5] at H
                  have c5b0 : decide (x22_2 < ((rd_L6 l0 x16_1).length : Int)) = false := decide_eq_false c5
                  clear c5
                  have H' := Aside0.mk H
                  clear H
                  go_wp2
                  go_roundg k2
                  case measure => have := HK1.out; have := HK2.out; omega
                  case rel => exact ⟨(x3_2), (wrap64 (x16_1 + 1)), (by first | rfl | (simp; done) | (simp [*]; done) | exact isEmpty_bne _), H', ⟨by have := HK1.out; have := HK2.out; omega⟩, ⟨by (with_reducible repeat (first | apply Kd.R_alloc | apply Kd.R_drewN | apply Kd.R_drew)); exact HO_3.out⟩, ⟨by repeat (first | (with_reducible first | exact HB.out | apply below_alloc | apply pw_below_drewN | apply below_drew1) | exact HB.out)⟩⟩
          · rw [if_neg c4] at H
            exact absurd H (by simp)
        · rw [if_neg c3] at H
          exact absurd H (by simp)
      · rw [if_neg c2] at H
        have c2b0 : decide (x16_1 < (l0.length : Int)) = false := decide_eq_false c2
        clear c2
        have H' := Aside0.mk H
        clear H
        go_wp2
        go_loopg [8, 48] k1 (fun kq v8 v48 w' => ∃ (x8_2 : List ByteArray) (x48_2 : Int), v48 = .int .i64 x48_2 ∧ Aside0 (format_Table.l2 kq x3_1 x8_2 l0 (l0.length : Int) x48_2 = some r) ∧ Aside0 (kq ≤ k1) ∧ Aside0 (Kd.R (Kd.int .i64) 3 w' w.heap.size (fun _ => True) u3 x3_1) ∧ Aside0 (Kd.R Kd.string 9 w' w.heap.size (fun _ => True) v8 x8_2) ∧ Aside0 (Below w.heap.size w w'))
        case atStart => exact ⟨(([] : List ByteArray)), (0), (by first | rfl | (simp; done) | (simp [*]; done) | exact isEmpty_bne _), H', ⟨Nat.le_refl _⟩, ⟨by (with_reducible repeat (first | apply Kd.R_alloc | apply Kd.R_drewN | apply Kd.R_drew)); exact HO_3.out⟩, ⟨by first | exact Kd.R_nil _ _ _ _ _ | exact Kd.N_nil _ _ _ _ _ | exact Kd.V_nil _ _ _ _ _ | exact Kd.Q_nil _ _ _ _ _ | exact Kd.S_nil _ _ _ _ _⟩, ⟨by repeat (first | (with_reducible first | exact HB.out | apply below_alloc | apply pw_below_drewN | apply below_drew1) | exact HB.out)⟩⟩
        case round =>
          clear H'
          try clear c1
          try clear p1
          try clear q1
          try clear hx1
          try clear hf1
          try clear c2
          try clear c2b0
          try clear p2
          try clear q2
          try clear hx2
          try clear hf2
          try clear c3
          try clear c3b0
          try clear c4
          try clear c4b0
          try clear c5
          try clear c5b0
          try clear c6
          try clear c6b0
          try clear p6
          try clear c7
          try clear c7b0
          try clear c8
          try clear c8b0
          try clear c8b1
          try clear c9
          try clear c10
          try clear c10b0
          try clear p12
          try clear q12
          try clear hx12
          try clear hf12
          try clear c13
          try clear p13
          try clear q13
          try clear hx13
          try clear c18
          try clear c18b0
          try clear p20
          try clear q20
          try clear hx20
          try clear hf20
          try clear c21
          try clear hx12_0
          try clear hx131_0
          try clear hx132_0
          try clear hx136_0
          try clear hx138_0
          try clear hx20_0
          try clear p1
          try clear p12
          try clear p131
          try clear p132
          try clear p136
          try clear p138
          try clear p2
          try clear p20
          try clear q1
          try clear q12
          try clear q131
          try clear q132
          try clear q136
          try clear q138
          try clear q20
          obtain ⟨x8_2, x48_2, rfl, HA, HK2, HO_3, HO_8, HB⟩ := hrel
          cases gk with
          | zero => exact absurd HA.out (by simp [format_Table.l2])
          | succ k2 =>
            have H := HA.out
            clear HA
            simp only [format_Table.l2] at H
            by_cases c24 : x48_2 < (l0.length : Int)
            · rw [if_pos c24] at H
              have c24b0 : decide (x48_2 < (l0.length : Int)) = true := decide_eq_true c24
              clear c24
              by_cases c25 : 0 ≤ x48_2
              · rw [if_pos c25] at H
                have c25b0 : decide (0 ≤ x48_2) = true := decide_eq_true c25
                clear c25
                by_cases c26 : x48_2 < (l0.length : Int)
                · rw [if_pos c26] at H
                  have c26b0 : decide (x48_2 < (l0.length : Int)) = true := decide_eq_true c26
                  clear c26
                  have H' := Aside0.mk H
                  clear H
                  have p140 : 0 ≤ (x48_2 : Int) := of_decide_eq_true (by first | (with_reducible assumption) | assumption)
                  have q140 : x48_2 < (l0.length : Int) := of_decide_eq_true (by first | (with_reducible assumption) | assumption)
                  obtain ⟨ad140, A140_0, c140_0, e140, hx140_0, hl140_0, hi140_0⟩ := at_L6 HR0.out x48_2 p140 q140
                  cases e140
                  replace hx140_0 := (HB.out.cell (World.block_lt_of_cell? w _ hx140_0)).trans hx140_0
                  have HR140_0 := Aside0.mk hi140_0
                  have HC140_0 := Aside0.mk hl140_0
                  clear hi140_0 hl140_0
                  replace p140 := eq_true p140
                  replace q140 := eq_true q140
                  have HI0 := Aside0.mk (bld_new 59 5 wr)
                  have HBB0 := Aside0.mk ((Below.refl wr.heap.size wr).alloc (Nat.le_refl _) (.cells #[.pointer none, .slice none 0 0] 59))
                  go_wp2
                  go_loopg [54] k2 (fun kq v54 w' => ∃ (x11_3 : ByteArray) (x54_3 : Int), v54 = .int .i64 x54_3 ∧ Aside0 (format_Table.l3 kq x3_1 x8_2 (rd_L6 l0 x48_2) x11_3 l0 (l0.length : Int) x48_2 (rd_L6 l0 x48_2) ((rd_L6 l0 x48_2).length : Int) x54_3 = some r) ∧ Aside0 (kq ≤ k2) ∧ Aside0 (Lib.IsBuilder 59 5 wr.heap.size wr.heap.size (Lib.strCells x11_3) w') ∧ Aside0 (Below wr.heap.size wr w'))
                  case atStart => exact ⟨((⟨#[]⟩ : ByteArray)), (0), (by first | rfl | (simp; done)), H', ⟨Nat.le_refl _⟩, ⟨HI0.out⟩, ⟨HBB0.out⟩⟩
                  case round =>
                    clear H'
                    try clear c1
                    try clear p1
                    try clear q1
                    try clear hx1
                    try clear hf1
                    try clear c2
                    try clear c2b0
                    try clear p2
                    try clear q2
                    try clear hx2
                    try clear hf2
                    try clear c3
                    try clear c3b0
                    try clear c4
                    try clear c4b0
                    try clear c5
                    try clear c5b0
                    try clear c6
                    try clear c6b0
                    try clear p6
                    try clear c7
                    try clear c7b0
                    try clear c8
                    try clear c8b0
                    try clear c8b1
                    try clear c9
                    try clear c10
                    try clear c10b0
                    try clear p12
                    try clear q12
                    try clear hx12
                    try clear hf12
                    try clear c13
                    try clear p13
                    try clear q13
                    try clear hx13
                    try clear c14
                    try clear p14
                    try clear q14
                    try clear hx14
                    try clear c18
                    try clear c18b0
                    try clear p20
                    try clear q20
                    try clear hx20
                    try clear hf20
                    try clear c21
                    try clear c24
                    try clear c24b0
                    try clear c25
                    try clear c25b0
                    try clear c26
                    try clear c26b0
                    try clear hx12_0
                    try clear hx131_0
                    try clear hx132_0
                    try clear hx136_0
                    try clear hx138_0
                    try clear hx140_0
                    try clear hx20_0
                    try clear p1
                    try clear p12
                    try clear p13
                    try clear p131
                    try clear p132
                    try clear p136
                    try clear p138
                    try clear p140
                    try clear p2
                    try clear p20
                    try clear p6
                    try clear q1
                    try clear q12
                    try clear q13
                    try clear q131
                    try clear q132
                    try clear q136
                    try clear q138
                    try clear q140
                    try clear q2
                    try clear q20
                    try clear HI0 HBB0
                    obtain ⟨x11_3, x54_3, rfl, HA, HK3, HI, HBB⟩ := hrel
                    have HWS := Aside0.mk (below_size HB.out)
                    have n2_ := Aside0.mk (HB.out.trans (HBB.out.mono HWS.out))
                    clear HB
                    have HB := n2_
                    clear n2_
                    cases gk with
                    | zero => exact absurd HA.out (by simp [format_Table.l3])
                    | succ k3 =>
                      have H := HA.out
                      clear HA
                      simp only [format_Table.l3] at H
                      by_cases c27 : x54_3 < ((rd_L6 l0 x48_2).length : Int)
                      · rw [if_pos c27] at H
                        have c27b0 : decide (x54_3 < ((rd_L6 l0 x48_2).length : Int)) = true := decide_eq_true c27
                        clear c27
                        by_cases c28 : 0 ≤ x54_3
                        · rw [if_pos c28] at H
                          have c28b0 : decide (0 ≤ x54_3) = true := decide_eq_true c28
                          clear c28
                          by_cases c29 : x54_3 < ((rd_L6 l0 x48_2).length : Int)
                          · rw [if_pos c29] at H
                            have c29b0 : decide (x54_3 < ((rd_L6 l0 x48_2).length : Int)) = true := decide_eq_true c29
                            clear c29
                            by_cases c30 : x11_3.size + (rdOf ByteArray.empty (rd_L6 l0 x48_2) x54_3).size ≤ 140737488355327
                            · rw [if_pos c30] at H
                              have c30b0 := eq_true c30
                              have c30b1 : decide (x11_3.size + (rdOf ByteArray.empty (rd_L6 l0 x48_2) x54_3).size ≤ 140737488355327) = true := decide_eq_true c30
                              try have c30b2 : (140737488355327 < x11_3.size + (rdOf ByteArray.empty (rd_L6 l0 x48_2) x54_3).size) = False := eq_false (Nat.not_lt.2 c30)
                              by_cases c31 : x54_3 < (wrap64 (((rd_L6 l0 x48_2).length : Int) - 1))
                              · rw [if_pos c31] at H
                                have c31b0 : decide (x54_3 < (wrap64 (((rd_L6 l0 x48_2).length : Int) - 1))) = true := decide_eq_true c31
                                clear c31
                                by_cases c32 : x54_3 < (x3_1.length : Int)
                                · rw [if_pos c32] at H
                                  have c32b0 : decide (x54_3 < (x3_1.length : Int)) = true := decide_eq_true c32
                                  clear c32
                                  replace H := Option.bind_eq_some_iff.mp H
                                  obtain ⟨t143, A330, H⟩ := H
                                  replace H : (if x11_3.size + (rdOf ByteArray.empty (rd_L6 l0 x48_2) x54_3).size + t143.size ≤ 140737488355327 then (format_Table.l3 k3 x3_1 x8_2 (rd_L6 l0 x48_2) ((x11_3 ++ (rdOf ByteArray.empty (rd_L6 l0 x48_2) x54_3)) ++ t143) l0 (l0.length : Int) x48_2 (rd_L6 l0 x48_2) ((rd_L6 l0 x48_2).length : Int) (wrap64 (x54_3 + 1))) else (none)) = some r := H
                                  have A33 := Aside0.mk A330
                                  clear A330
                                  by_cases c34 : x11_3.size + (rdOf ByteArray.empty (rd_L6 l0 x48_2) x54_3).size + t143.size ≤ 140737488355327
                                  · rw [if_pos c34] at H
                                    have c34b0 := eq_true c34
                                    have c34b1 : decide (x11_3.size + (rdOf ByteArray.empty (rd_L6 l0 x48_2) x54_3).size + t143.size ≤ 140737488355327) = true := decide_eq_true c34
                                    try have c34b2 : (140737488355327 < x11_3.size + (rdOf ByteArray.empty (rd_L6 l0 x48_2) x54_3).size + t143.size) = False := eq_false (Nat.not_lt.2 c34)
                                    have H' := Aside0.mk H
                                    clear H
                                    have p141 : 0 ≤ (x54_3 : Int) := of_decide_eq_true (by first | (with_reducible assumption) | assumption)
                                    have q141 : x54_3 < ((rd_L6 l0 x48_2).length : Int) := of_decide_eq_true (by first | (with_reducible assumption) | assumption)
                                    obtain ⟨ad141, e141, hx141_0⟩ := Kd.at_string HR140_0.out x54_3 p141 q141
                                    cases e141
                                    replace hx141_0 := (HB.out.cell (World.block_lt_of_cell? w _ hx141_0)).trans hx141_0
                                    replace p141 := eq_true p141
                                    replace q141 := eq_true q141
                                    obtain ⟨Ao35, co35, eo35⟩ := Kd.R_slice HO_3.out
                                    subst eo35
                                    have p142 : 0 ≤ (x54_3 : Int) := of_decide_eq_true (by first | (with_reducible assumption) | assumption)
                                    have q142 : x54_3 < (x3_1.length : Int) := of_decide_eq_true (by first | (with_reducible assumption) | assumption)
                                    obtain ⟨ad142, e142, hx142_0⟩ := Kd.at_int (Kd.R_reads' HO_3.out).2.2 x54_3 p142 q142
                                    cases e142
                                    replace p142 := eq_true p142
                                    replace q142 := eq_true q142
                                    replace c34 : (x11_3 ++ (rdOf ByteArray.empty (rd_L6 l0 x48_2) x54_3)).size + t143.size ≤ 140737488355327 := by rw [ByteArray.size_append]; exact c34
                                    go_wp2_with (first
                                      | (go_at_call 38; (with_reducible refine (bld_string _ _ (Lib.strCells x11_3) (rdOf ByteArray.empty (rd_L6 l0 x48_2) x54_3) _ HI.out (by rw [Lib.strCells_length]; omega) HBB.out.size).mono ?_); rintro e w6 ⟨rfl, hi6, hb6, hk6⟩; rw [← strCells_append] at hi6; have HI6 := Aside0.mk hi6; have HBB6 := Aside0.mk (HBB.out.trans hb6); have hx142_6 := (HBB6.out.cell (World.block_lt_of_cell? _ _ hx142_0)).trans hx142_0; clear hi6 hb6 hk6)
                                      | (go_at_call 39; (with_reducible refine (strings_Repeat.calls (⟨#[32]⟩ : ByteArray) (wrap64 ((wrap64 ((rd x3_1 x54_3) - ((rdOf ByteArray.empty (rd_L6 l0 x48_2) x54_3).size : Int))) + 2)) t143 _ A33.out).mono ?_); rintro e w36 ⟨rfl, hb⟩; have HI7 := Aside0.mk (bld_keep (w' := w36) HI6.out (fun k hk => hb.block k hk)); have HBB7 := Aside0.mk (HBB6.out.trans (hb.mono HBB6.out.size)); clear hb)
                                      | (go_at_call 38; (with_reducible refine (bld_string _ _ (Lib.strCells (x11_3 ++ (rdOf ByteArray.empty (rd_L6 l0 x48_2) x54_3))) t143 _ HI7.out (by rw [Lib.strCells_length]; omega) HBB7.out.size).mono ?_); rintro e w8 ⟨rfl, hi8, hb8, hk8⟩; rw [← strCells_append] at hi8; have HI8 := Aside0.mk hi8; have HBB8 := Aside0.mk (HBB7.out.trans hb8); clear hi8 hb8 hk8))
                                    go_roundg k3
                                    case measure => have := HK1.out; have := HK2.out; have := HK3.out; omega
                                    case rel => exact ⟨((x11_3 ++ (rdOf ByteArray.empty (rd_L6 l0 x48_2) x54_3)) ++ t143), (wrap64 (x54_3 + 1)), (by first | rfl | (simp; done)), H', ⟨by have := HK1.out; have := HK2.out; have := HK3.out; omega⟩, ⟨HI8.out⟩, ⟨HBB8.out⟩⟩
                                  · rw [if_neg c34] at H
                                    exact absurd H (by simp)
                                · rw [if_neg c32] at H
                                  exact absurd H (by simp)
                              · rw [if_neg c31] at H
                                have c31b0 : decide (x54_3 < (wrap64 (((rd_L6 l0 x48_2).length : Int) - 1))) = false := decide_eq_false c31
                                clear c31
                                have H' := Aside0.mk H
                                clear H
                                have p141 : 0 ≤ (x54_3 : Int) := of_decide_eq_true (by first | (with_reducible assumption) | assumption)
                                have q141 : x54_3 < ((rd_L6 l0 x48_2).length : Int) := of_decide_eq_true (by first | (with_reducible assumption) | assumption)
                                obtain ⟨ad141, e141, hx141_0⟩ := Kd.at_string HR140_0.out x54_3 p141 q141
                                cases e141
                                replace hx141_0 := (HB.out.cell (World.block_lt_of_cell? w _ hx141_0)).trans hx141_0
                                replace p141 := eq_true p141
                                replace q141 := eq_true q141
                                go_wp2_with (first
                                  | (go_at_call 38; (with_reducible refine (bld_string _ _ (Lib.strCells x11_3) (rdOf ByteArray.empty (rd_L6 l0 x48_2) x54_3) _ HI.out (by rw [Lib.strCells_length]; omega) HBB.out.size).mono ?_); rintro e w6 ⟨rfl, hi6, hb6, hk6⟩; rw [← strCells_append] at hi6; have HI6 := Aside0.mk hi6; have HBB6 := Aside0.mk (HBB.out.trans hb6); clear hi6 hb6 hk6))
                                go_roundg k3
                                case measure => have := HK1.out; have := HK2.out; have := HK3.out; omega
                                case rel => exact ⟨(x11_3 ++ (rdOf ByteArray.empty (rd_L6 l0 x48_2) x54_3)), (wrap64 (x54_3 + 1)), (by first | rfl | (simp; done)), H', ⟨by have := HK1.out; have := HK2.out; have := HK3.out; omega⟩, ⟨HI6.out⟩, ⟨HBB6.out⟩⟩
                            · rw [if_neg c30] at H
                              exact absurd H (by simp)
                          · rw [if_neg c29] at H
                            exact absurd H (by simp)
                        · rw [if_neg c28] at H
                          exact absurd H (by simp)
                      · rw [if_neg c27] at H
                        have c27b0 : decide (x54_3 < ((rd_L6 l0 x48_2).length : Int)) = false := decide_eq_false c27
                        clear c27
                        by_cases c37 : x8_2.length < 8796093022208
                        · rw [if_pos c37] at H
                          have LMc37 := Aside0.mk c37
                          clear c37
                          obtain ⟨y144, hy144⟩ : ∃ y_ : List ByteArray, y_ = (x8_2 ++ [x11_3]) := ⟨_, rfl⟩
                          replace H : (format_Table.l2 k3 x3_1 y144 l0 (l0.length : Int) (wrap64 (x48_2 + 1))) = some r := by first | (rw [hy144]; with_reducible exact H) | (have H2_ := (Option.bind_some _ _).symm.trans H; rw [hy144]; with_reducible exact H2_) | (have H2_ := (Option.bind_some _ _).symm.trans H; with_reducible exact H2_) | with_reducible exact H | (rw [hy144]; exact H) | exact H
                          have Ny144 := Aside0.mk hy144
                          clear hy144
                          have H' := Aside0.mk H
                          clear H
                          go_wp2_with (first
                            | (go_at_call 40; (with_reducible refine (tbld_text _ _ x11_3 _ HI.out HBB.out.size).mono ?_); rintro e w7 ⟨rfl, hb7⟩; have HBB7 := Aside0.mk (HBB.out.trans hb7); have n0_ := Aside0.mk (Kd.R_below HO_3.out HBB7.out); have n1_ := Aside0.mk (Kd.R_below HO_8.out HBB7.out); have n2_ := Aside0.mk (HB.out.trans (hb7.mono (Nat.le_trans HWS.out (Nat.le_refl _)))); clear HO_3 HO_8 HB HBB; have HO_3 := n0_; have HO_8 := n1_; have HB := n2_; clear n0_ n1_ n2_ hb7)
                            | ((with_reducible refine gate_builtin (b := .append) (xs := #[.tmp 77, .tmp 79]) rfl ?_); at_builtin; refine Kd.R_append Kd.string (w0 := w) w.heap.size rfl (.tmp 77) (.tmp 79) 27 9 (.string ⟨#[]⟩) 16 rfl Try.underlying27 info9 rfl (by decide) (by omega) u8 x8_2 x11_3 [.string x11_3] (fun _ => True) (fun _ => False) rfl rfl ?aP (fun _ hk => hk.elim) ?aF ?aO ?aB ?aS ?aL ?_; (case aP => exact rfl); (case aB => exact (by repeat (first | (with_reducible first | exact HB.out | apply below_alloc | apply pw_below_drewN | apply below_drew1) | exact HB.out))); (case aF => exact (fun _ _ => trivial)); (case aO => exact (by (with_reducible repeat (first | apply Kd.R_alloc | apply Kd.R_drewN | apply Kd.R_drew)); exact HO_8.out)); (case aS => exact (below_size (by repeat (first | (with_reducible first | exact HB.out | apply below_alloc | apply pw_below_drewN | apply below_drew1) | exact HB.out)))); (case aL => have := LMc37.out; omega); intro v145 w38 ho hb hg hat; rw [← Ny144.out] at ho; have n0_ := Aside0.mk (Kd.R_over' (by (with_reducible repeat (first | apply Kd.R_alloc | apply Kd.R_drewN | apply Kd.R_drew)); exact HO_3.out) (Kd.R_typed (by (with_reducible repeat (first | apply Kd.R_alloc | apply Kd.R_drewN | apply Kd.R_drew)); exact HO_8.out)) (by decide) hg); have n1_ := Aside0.mk (hb); have n2_ := Aside0.mk (ho); clear HO_3; clear HB; clear HO_8; have HO_3 := n0_; have HB := n1_; have HO146 := n2_; clear n0_ n1_ n2_; clear ho hb hg hat))
                          go_roundg k3
                          case measure => have := HK1.out; have := HK2.out; have := HK3.out; omega
                          case rel => exact ⟨(y144), (wrap64 (x48_2 + 1)), (by first | rfl | (simp; done) | (simp [*]; done) | exact isEmpty_bne _), H', ⟨by have := HK1.out; have := HK2.out; have := HK3.out; omega⟩, ⟨by (with_reducible repeat (first | apply Kd.R_alloc | apply Kd.R_drewN | apply Kd.R_drew)); exact HO_3.out⟩, ⟨by (with_reducible repeat (first | apply Kd.R_alloc | apply Kd.R_drewN | apply Kd.R_drew)); exact HO146.out⟩, ⟨by repeat (first | (with_reducible first | exact HB.out | apply below_alloc | apply pw_below_drewN | apply below_drew1) | exact HB.out)⟩⟩
                        · rw [if_neg c37] at H
                          exact absurd H (by simp)
                · rw [if_neg c26] at H
                  exact absurd H (by simp)
              · rw [if_neg c25] at H
                exact absurd H (by simp)
            · rw [if_neg c24] at H
              have c24b0 : decide (x48_2 < (l0.length : Int)) = false := decide_eq_false c24
              clear c24
              obtain rfl := Option.some.inj H
              go_wp2
              go_ret
              exact ⟨_, by first | rfl | (simp [errW_none, errW_some] <;> rfl) | (simp [*, errW_none, errW_some] <;> rfl), by (with_reducible repeat (first | apply Kd.R_alloc | apply Kd.R_drewN | apply Kd.R_drew)); exact HO_8.out, by repeat (first | (with_reducible first | exact HB.out | apply below_alloc | apply pw_below_drewN | apply below_drew1) | exact HB.out)⟩

end Go.Proofs.Ytbakfpiflcaacaa.PFormatTables
