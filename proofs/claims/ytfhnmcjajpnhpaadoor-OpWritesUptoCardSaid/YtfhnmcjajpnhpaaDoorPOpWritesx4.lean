-- LAID BY gprint.py: a scratch copy of the print, with functions that this session proved by hand among the printed ones
import Derived.Test.YtfhnmcjajpnhpaaDoorPOpWritesx0
import Derived.Test.YtfhnmcjajpnhpaaDoorPOpWritesx3
namespace Go.Proofs.YtfhnmcjajpnhpaaDoor.POpWrites
open Go.RowKit Go.Proofs.YtfhnmcjajpnhpaaDoorW.PrintWords Go.Proofs.YtfhnmcjajpnhpaaDoorW.PrintLast Go.Proofs.YtfhnmcjajpnhpaaDoor.Conv Go.Proofs.YtfhnmcjajpnhpaaDoor.Bld Go.Proofs.YtfhnmcjajpnhpaaDoorW.PrintMore
attribute [local go_sem] max2_int min2_int max_two min_two max_three min_three max_four min_four gtr_less   -- for this text's walks alone
set_option linter.unusedVariables false
set_option linter.unusedSimpArgs false

/-! ### logbookref04_Texts: function 26 -/
def logbookref04_Texts.l0 : Nat → List ByteArray → List ByteArray → Int → Option (Bool)
  | 0, _, _, _ => none
  | k + 1, x0, x1, x5 => if x5 < (x0.length : Int) then (if 0 ≤ x5 then (if x5 < (x1.length : Int) then (if (rdOf ByteArray.empty x0 x5).toList = (rdOf ByteArray.empty x1 x5).toList then (logbookref04_Texts.l0 k x0 x1 (wrap64 (x5 + 1))) else (some false)) else (none)) else (none)) else (some true)
def logbookref04_Texts.f (k : Nat) (l0 : List ByteArray) (l1 : List ByteArray) : Option (Bool) := if (l0.length : Int) = (l1.length : Int) then (logbookref04_Texts.l0 k l0 l1 0) else (some false)
theorem logbookref04_Texts.mono_l : ∀ k, (∀ y0 y1 y2, LeO (logbookref04_Texts.l0 k y0 y1 y2) (logbookref04_Texts.l0 (k + 1) y0 y1 y2))
  | 0 => fun _ _ _ r h => by simp [logbookref04_Texts.l0] at h
  | k + 1 => by
    have ih0 := logbookref04_Texts.mono_l k
    · intro y0 y1 y2
      unfold logbookref04_Texts.l0
      repeat' first
      | (with_reducible exact ih0 _ _ _)
      | (with_reducible exact LeO.refl _)
      | (with_reducible exact LeO.none _)
      | (with_reducible refine LeO.ite ?_ ?_)
      | (with_reducible refine LeO.bind ?_ (fun _ => ?_))
      | exact ih0 _ _ _
      | exact LeO.none _
      | refine LeO.ite ?_ ?_
      | refine LeO.bind ?_ (fun _ => ?_)
theorem logbookref04_Texts.mono : ∀ a0 a1 k, LeO (logbookref04_Texts.f k a0 a1) (logbookref04_Texts.f (k + 1) a0 a1) := by
  intro a0 a1 k
  have ih0 := logbookref04_Texts.mono_l k
  unfold logbookref04_Texts.f
  repeat' first
      | (with_reducible exact ih0 _ _ _)
      | (with_reducible exact LeO.refl _)
      | (with_reducible exact LeO.none _)
      | (with_reducible refine LeO.ite ?_ ?_)
      | (with_reducible refine LeO.bind ?_ (fun _ => ?_))
      | exact ih0 _ _ _
      | exact LeO.none _
      | refine LeO.ite ?_ ?_
      | refine LeO.bind ?_ (fun _ => ?_)
set_option maxHeartbeats 8000000 in
set_option maxRecDepth 100000 in
theorem logbookref04_Texts.calls (k : Nat) (A0 : Option Addr) (c0 : Nat) (l0 : List ByteArray) (A1 : Option Addr) (c1 : Nat) (l1 : List ByteArray) (r : Bool) (w : World) (hr0 : Kd.C Kd.string w A0 l0.length l0) (hc0 : l0.length ≤ c0) (hr1 : Kd.C Kd.string w A1 l1.length l1) (hc1 : l1.length ≤ c1) (h : logbookref04_Texts.f k l0 l1 = some r) :
    Calls Tryd.prog 26 #[.slice A0 l0.length c0, .slice A1 l1.length c1] w fun e w' => e = .returned (.bool r) ∧ Drawn0 w w' := by
  have HR0 := Aside0.mk hr0
  have HC0 := Aside0.mk hc0
  clear hr0 hc0
  have HR1 := Aside0.mk hr1
  have HC1 := Aside0.mk hc1
  clear hr1 hc1
  have H : (if (l0.length : Int) = (l1.length : Int) then (logbookref04_Texts.l0 k l0 l1 0) else (some false)) = some r := h
  clear h
  by_cases c3 : (l0.length : Int) = (l1.length : Int)
  · rw [if_pos c3] at H
    have c3b0 : ((l0.length : Int) == (l1.length : Int)) = true := beq_iff_eq.mpr c3
    have c3b1 : ((l0.length : Int) != (l1.length : Int)) = false := bne_eq_false_iff_eq.mpr c3
    have c3b2 : (l0.length == l1.length) = true := by first | simpa using c3 | (simp at c3 ⊢; omega)
    clear c3
    have H' := Aside0.mk H
    clear H
    go_enter Tryd.func26, Tryd.ntmps26
    go_wp2
    repeat (go_quiet (fail); try go_wp2)
    go_loopg [5] k (fun kq v5 w' => ∃ (x5_1 : Int), v5 = .int .i64 x5_1 ∧ Aside0 (logbookref04_Texts.l0 kq l0 l1 x5_1 = some r) ∧ Aside0 (kq ≤ k) ∧ Drawn0 w w')
    case atStart => exact ⟨(0), (by first | rfl | (simp; done) | (simp [*]; done) | exact isEmpty_bne _), H', ⟨Nat.le_refl _⟩, by repeat (first | exact Drawn0.refl _ | apply Drawn0.step)⟩
    case round =>
      clear H'
      try clear c1
      try clear c2
      try clear p2
      try clear c3
      try clear c3b0
      try clear c3b1
      try clear c3b2
      obtain ⟨x5_1, rfl, HA, HK1, ⟨m1, rfl⟩⟩ := hrel
      cases gk with
      | zero => exact absurd HA.out (by simp [logbookref04_Texts.l0])
      | succ k1 =>
        have H := HA.out
        clear HA
        simp only [logbookref04_Texts.l0] at H
        by_cases c4 : x5_1 < (l0.length : Int)
        · rw [if_pos c4] at H
          have c4b0 : decide (x5_1 < (l0.length : Int)) = true := decide_eq_true c4
          clear c4
          by_cases c5 : 0 ≤ x5_1
          · rw [if_pos c5] at H
            have c5b0 : decide (0 ≤ x5_1) = true := decide_eq_true c5
            clear c5
            by_cases c6 : x5_1 < (l1.length : Int)
            · rw [if_pos c6] at H
              have c6b0 : decide (x5_1 < (l1.length : Int)) = true := decide_eq_true c6
              clear c6
              by_cases c7 : (rdOf ByteArray.empty l0 x5_1).toList = (rdOf ByteArray.empty l1 x5_1).toList
              · rw [if_pos c7] at H
                have c7b0 : ((rdOf ByteArray.empty l0 x5_1).toList == (rdOf ByteArray.empty l1 x5_1).toList) = true := beq_iff_eq.mpr c7
                have c7b1 : ((rdOf ByteArray.empty l0 x5_1).toList != (rdOf ByteArray.empty l1 x5_1).toList) = false := bne_eq_false_iff_eq.mpr c7
                clear c7
                have H' := Aside0.mk H
                clear H
                have p140 : 0 ≤ (x5_1 : Int) := of_decide_eq_true (by first | (with_reducible assumption) | assumption)
                have q140 : x5_1 < (l0.length : Int) := of_decide_eq_true (by first | (with_reducible assumption) | assumption)
                obtain ⟨ad140, e140, hx140_0⟩ := Kd.at_string HR0.out x5_1 p140 q140
                cases e140
                replace p140 := eq_true p140
                replace q140 := eq_true q140
                have p141 : 0 ≤ (x5_1 : Int) := of_decide_eq_true (by first | (with_reducible assumption) | assumption)
                have q141 : x5_1 < (l1.length : Int) := of_decide_eq_true (by first | (with_reducible assumption) | assumption)
                obtain ⟨ad141, e141, hx141_0⟩ := Kd.at_string HR1.out x5_1 p141 q141
                cases e141
                replace p141 := eq_true p141
                replace q141 := eq_true q141
                go_wp2
                repeat (go_quiet (fail); try go_wp2)
                go_roundg k1
                case measure => have := HK1.out; omega
                case rel => exact ⟨(wrap64 (x5_1 + 1)), (by first | rfl | (simp; done) | (simp [*]; done) | exact isEmpty_bne _), H', ⟨by have := HK1.out; omega⟩, by repeat (first | exact Drawn0.refl _ | apply Drawn0.step)⟩
              · rw [if_neg c7] at H
                have c7b0 : ((rdOf ByteArray.empty l0 x5_1).toList == (rdOf ByteArray.empty l1 x5_1).toList) = false := beq_eq_false_iff_ne.mpr c7
                have c7b1 : ((rdOf ByteArray.empty l0 x5_1).toList != (rdOf ByteArray.empty l1 x5_1).toList) = true := bne_iff_ne.mpr c7
                obtain rfl := Option.some.inj H
                have p140 : 0 ≤ (x5_1 : Int) := of_decide_eq_true (by first | (with_reducible assumption) | assumption)
                have q140 : x5_1 < (l0.length : Int) := of_decide_eq_true (by first | (with_reducible assumption) | assumption)
                obtain ⟨ad140, e140, hx140_0⟩ := Kd.at_string HR0.out x5_1 p140 q140
                cases e140
                replace p140 := eq_true p140
                replace q140 := eq_true q140
                have p141 : 0 ≤ (x5_1 : Int) := of_decide_eq_true (by first | (with_reducible assumption) | assumption)
                have q141 : x5_1 < (l1.length : Int) := of_decide_eq_true (by first | (with_reducible assumption) | assumption)
                obtain ⟨ad141, e141, hx141_0⟩ := Kd.at_string HR1.out x5_1 p141 q141
                cases e141
                replace p141 := eq_true p141
                replace q141 := eq_true q141
                go_wp2
                repeat (go_quiet (fail); try go_wp2)
                go_ret
                exact ⟨by first | rfl | (simp; done) | (simp [*]; done) | exact isEmpty_bne _, by repeat (first | exact Drawn0.refl _ | apply Drawn0.step)⟩
            · rw [if_neg c6] at H
              exact absurd H (by simp)
          · rw [if_neg c5] at H
            exact absurd H (by simp)
        · rw [if_neg c4] at H
          have c4b0 : decide (x5_1 < (l0.length : Int)) = false := decide_eq_false c4
          clear c4
          obtain rfl := Option.some.inj H
          go_wp2
          repeat (go_quiet (fail); try go_wp2)
          go_ret
          exact ⟨by first | rfl | (simp; done) | (simp [*]; done) | exact isEmpty_bne _, by repeat (first | exact Drawn0.refl _ | apply Drawn0.step)⟩
  · rw [if_neg c3] at H
    have c3b0 : ((l0.length : Int) == (l1.length : Int)) = false := beq_eq_false_iff_ne.mpr c3
    have c3b1 : ((l0.length : Int) != (l1.length : Int)) = true := bne_iff_ne.mpr c3
    have c3b2 : (l0.length == l1.length) = false := by first | simpa using c3 | (simp at c3 ⊢; omega)
    obtain rfl := Option.some.inj H
    go_enter Tryd.func26, Tryd.ntmps26
    go_wp2
    repeat (go_quiet (fail); try go_wp2)
    go_ret
    exact ⟨by first | rfl | (simp; done) | (simp [*]; done) | exact isEmpty_bne _, by repeat (first | exact Drawn0.refl _ | apply Drawn0.step)⟩

/-! ### logbooklaw46_same: function 9 -/
def logbooklaw46_same.f (k : Nat) (a0_0 : Int) (l0_1 : List Int) (l0_2 : List ByteArray) (a1_0 : Int) (l1_1 : List Int) (l1_2 : List ByteArray) : Option (Bool) := if a0_0 = a1_0 then ((logbookref01_Words.f k l0_1 l1_1).bind fun t144 => (if t144 = true then ((logbookref04_Texts.f k l0_2 l1_2).bind fun t145 => (some t145)) else (some false))) else (some false)
theorem logbooklaw46_same.mono : ∀ a0 a1 a2 a3 a4 a5 k, LeO (logbooklaw46_same.f k a0 a1 a2 a3 a4 a5) (logbooklaw46_same.f (k + 1) a0 a1 a2 a3 a4 a5) := by
  intro a0 a1 a2 a3 a4 a5 k
  unfold logbooklaw46_same.f
  repeat' first
      | (with_reducible exact logbookref01_Words.mono _ _ _)
      | (with_reducible exact logbookref04_Texts.mono _ _ _)
      | (with_reducible exact LeO.refl _)
      | (with_reducible exact LeO.none _)
      | (with_reducible refine LeO.ite ?_ ?_)
      | (with_reducible refine LeO.bind ?_ (fun _ => ?_))
      | exact logbookref01_Words.mono _ _ _
      | exact logbookref04_Texts.mono _ _ _
      | exact LeO.none _
      | refine LeO.ite ?_ ?_
      | refine LeO.bind ?_ (fun _ => ?_)
set_option maxHeartbeats 8000000 in
set_option maxRecDepth 100000 in
theorem logbooklaw46_same.calls (k : Nat) (a0_0 : Int) (A0_1 : Option Addr) (c0_1 : Nat) (l0_1 : List Int) (A0_2 : Option Addr) (c0_2 : Nat) (l0_2 : List ByteArray) (a1_0 : Int) (A1_1 : Option Addr) (c1_1 : Nat) (l1_1 : List Int) (A1_2 : Option Addr) (c1_2 : Nat) (l1_2 : List ByteArray) (r : Bool) (w : World) (hr0_1 : Kd.C (Kd.int .u64) w A0_1 l0_1.length l0_1) (hc0_1 : l0_1.length ≤ c0_1) (hr0_2 : Kd.C Kd.string w A0_2 l0_2.length l0_2) (hc0_2 : l0_2.length ≤ c0_2) (hr1_1 : Kd.C (Kd.int .u64) w A1_1 l1_1.length l1_1) (hc1_1 : l1_1.length ≤ c1_1) (hr1_2 : Kd.C Kd.string w A1_2 l1_2.length l1_2) (hc1_2 : l1_2.length ≤ c1_2) (h : logbooklaw46_same.f k a0_0 l0_1 l0_2 a1_0 l1_1 l1_2 = some r) :
    Calls Tryd.prog 9 #[.agg #[.int .i64 a0_0, .slice A0_1 l0_1.length c0_1, .slice A0_2 l0_2.length c0_2], .agg #[.int .i64 a1_0, .slice A1_1 l1_1.length c1_1, .slice A1_2 l1_2.length c1_2]] w fun e w' => e = .returned (.bool r) ∧ Below w.heap.size w w' := by
  have hu26 := Tryd.underlying26
  have hu30 := Tryd.underlying30
  have HR0_1 := Aside0.mk hr0_1
  have HC0_1 := Aside0.mk hc0_1
  clear hr0_1 hc0_1
  have HR0_2 := Aside0.mk hr0_2
  have HC0_2 := Aside0.mk hc0_2
  clear hr0_2 hc0_2
  have HR1_1 := Aside0.mk hr1_1
  have HC1_1 := Aside0.mk hc1_1
  clear hr1_1 hc1_1
  have HR1_2 := Aside0.mk hr1_2
  have HC1_2 := Aside0.mk hc1_2
  clear hr1_2 hc1_2
  have HB := Aside0.mk (Below.refl w.heap.size w)
  have H : (if a0_0 = a1_0 then ((logbookref01_Words.f k l0_1 l1_1).bind fun t144 => (if t144 = true then ((logbookref04_Texts.f k l0_2 l1_2).bind fun t145 => (some t145)) else (some false))) else (some false)) = some r := h
  clear h
  by_cases c3 : a0_0 = a1_0
  · rw [if_pos c3] at H
    have c3b0 : (a0_0 == a1_0) = true := beq_iff_eq.mpr c3
    have c3b1 : (a0_0 != a1_0) = false := bne_eq_false_iff_eq.mpr c3
    clear c3
    replace H := Option.bind_eq_some_iff.mp H
    obtain ⟨t144, A40, H⟩ := H
    replace H : (if t144 = true then ((logbookref04_Texts.f k l0_2 l1_2).bind fun t145 => (some t145)) else (some false)) = some r := H
    have A4 := Aside0.mk A40
    clear A40
    by_cases c5 : t144 = true
    · subst c5
      have H1 : ((logbookref04_Texts.f k l0_2 l1_2).bind fun t145 => (some t145)) = some r := by rw [if_pos rfl] at H; exact H
      clear H
      have H := H1
      clear H1
      replace H := Option.bind_eq_some_iff.mp H
      obtain ⟨t145, A60, H⟩ := H
      replace H : (some t145) = some r := H
      have A6 := Aside0.mk A60
      clear A60
      obtain rfl := Option.some.inj H
      go_enter Tryd.func9, Tryd.ntmps9
      go_wp2_with (first | ((with_reducible refine gate_dst (N := 2) rfl ?_); refine box_event ?hg (N := 2) ?hd (cs := #[.int .i64 a0_0, .slice A0_1 l0_1.length c0_1, .slice A0_2 l0_2.length c0_2]) (t := 26) ?hr ?_; (case hd => rfl); (case hg => rfl); (case hr => first | (go_simp; done) | (go_simp; rfl)); intro gb142 hg w7 hbox hb; have n0_ := Aside0.mk (below_step (by repeat (first | (with_reducible first | exact HB.out | apply below_alloc | apply pw_below_drewN | apply below_drew1) | exact HB.out)) hb); have n1_ := Aside0.mk (hbox); have n2_ := Aside0.mk ((by rw [hg]; exact (below_size (by repeat (first | (with_reducible first | exact HB.out | apply below_alloc | apply pw_below_drewN | apply below_drew1) | exact HB.out))) : w.heap.size ≤ gb142)); have n3_ := Aside0.mk ((by rw [hg]; exact (below_size (by repeat (first | (with_reducible first | exact HB.out | apply below_alloc | apply pw_below_drewN | apply below_drew1) | exact HB.out))) : w.heap.size ≤ gb142)); clear HB; have HB := n0_; have BK142 := n1_; have GW142 := n2_; have GE142 := n3_; clear n0_ n1_ n2_ n3_; clear hb hbox hg) | ((with_reducible refine gate_dst (N := 3) rfl ?_); refine box_event ?hg (N := 3) ?hd (cs := #[.int .i64 a1_0, .slice A1_1 l1_1.length c1_1, .slice A1_2 l1_2.length c1_2]) (t := 30) ?hr ?_; (case hd => rfl); (case hg => rfl); (case hr => first | (go_simp; done) | (go_simp; rfl)); intro gb143 hg w8 hbox hb; have n0_ := Aside0.mk (blk_below (g := gb142) (o := .cells #[.int .i64 a0_0, .slice A0_1 l0_1.length c0_1, .slice A0_2 l0_2.length c0_2] 26 (0, 0)) (by (with_reducible repeat (first | refine blk_drewN ?_ _ | refine blk_drew ?_ | refine blk_alloc ?_ _)); exact BK142.out) hb); have n1_ := Aside0.mk (below_step (by repeat (first | (with_reducible first | exact HB.out | apply below_alloc | apply pw_below_drewN | apply below_drew1 | refine below_set ?_ GE142.out) | exact HB.out)) hb); have n2_ := Aside0.mk (hbox); have n3_ := Aside0.mk ((by rw [hg]; exact (below_size (by repeat (first | (with_reducible first | exact HB.out | apply below_alloc | apply pw_below_drewN | apply below_drew1 | refine below_set ?_ GE142.out) | exact HB.out))) : w.heap.size ≤ gb143)); have n4_ := Aside0.mk ((by rw [hg]; exact (below_size (by repeat (first | (with_reducible first | exact HB.out | apply below_alloc | apply pw_below_drewN | apply below_drew1 | refine below_set ?_ GE142.out) | exact HB.out))) : w.heap.size ≤ gb143)); have n5_ := Aside0.mk ((by rw [hg]; exact Nat.ne_of_lt (blk_lt (g := gb142) (o := .cells #[.int .i64 a0_0, .slice A0_1 l0_1.length c0_1, .slice A0_2 l0_2.length c0_2] 26 (0, 0)) (by (with_reducible repeat (first | refine blk_drewN ?_ _ | refine blk_drew ?_ | refine blk_alloc ?_ _)); exact BK142.out)) : gb142 ≠ gb143)); have n6_ := Aside0.mk ((by rw [hg]; exact Nat.ne_of_gt (blk_lt (g := gb142) (o := .cells #[.int .i64 a0_0, .slice A0_1 l0_1.length c0_1, .slice A0_2 l0_2.length c0_2] 26 (0, 0)) (by (with_reducible repeat (first | refine blk_drewN ?_ _ | refine blk_drew ?_ | refine blk_alloc ?_ _)); exact BK142.out)) : gb143 ≠ gb142)); clear BK142; clear HB; have BK142 := n0_; have HB := n1_; have BK143 := n2_; have GW143 := n3_; have GE143 := n4_; have NB142_143 := n5_; have NB143_142 := n6_; clear n0_ n1_ n2_ n3_ n4_ n5_ n6_; clear hb hbox hg; have hnb9 := NB142_143.out; have hnc9 := NB143_142.out; have hcz10_0 : w8.cell? ⟨gb142, 0, none⟩ = some (.int .i64 a0_0) := (blk_cell BK142.out 0).trans rfl; have hcz10_1 : w8.cell? ⟨gb142, 1, none⟩ = some (.slice A0_1 l0_1.length c0_1) := (blk_cell BK142.out 1).trans rfl; have hcz10_2 : w8.cell? ⟨gb142, 2, none⟩ = some (.slice A0_2 l0_2.length c0_2) := (blk_cell BK142.out 2).trans rfl; have hfz10_0 := blk_frozen BK142.out 0; have hfz10_1 := blk_frozen BK142.out 1; have hfz10_2 := blk_frozen BK142.out 2; have hcz11_0 : w8.cell? ⟨gb143, 0, none⟩ = some (.int .i64 a1_0) := (blk_cell BK143.out 0).trans rfl; have hcz11_1 : w8.cell? ⟨gb143, 1, none⟩ = some (.slice A1_1 l1_1.length c1_1) := (blk_cell BK143.out 1).trans rfl; have hcz11_2 : w8.cell? ⟨gb143, 2, none⟩ = some (.slice A1_2 l1_2.length c1_2) := (blk_cell BK143.out 2).trans rfl; have hfz11_0 := blk_frozen BK143.out 0; have hfz11_1 := blk_frozen BK143.out 1; have hfz11_2 := blk_frozen BK143.out 2) | (go_at_call 25; (with_reducible refine (logbookref01_Words.calls k _ _ l0_1 _ _ l1_1 true _ ?side1 ?side2 ?side3 ?side4 A4.out).mono ?_); (case side1 => repeat (first | exact (Kd.C_below HR0_1.out HB.out) | (with_reducible refine Kd.C_alloc ?_ _) | (with_reducible refine Kd.C_drewN ?_ _) | (with_reducible refine Kd.C_drew ?_))); (case side2 => exact HC0_1.out); (case side3 => repeat (first | exact (Kd.C_below HR1_1.out HB.out) | (with_reducible refine Kd.C_alloc ?_ _) | (with_reducible refine Kd.C_drewN ?_ _) | (with_reducible refine Kd.C_drew ?_))); (case side4 => exact HC1_1.out); rintro e w' ⟨rfl, ⟨nd, rfl⟩⟩) | (go_at_call 26; (with_reducible refine (logbookref04_Texts.calls k _ _ l0_2 _ _ l1_2 t145 _ ?side1 ?side2 ?side3 ?side4 A6.out).mono ?_); (case side1 => repeat (first | exact (Kd.C_below HR0_2.out (by repeat (first | (with_reducible first | exact HB.out | apply below_alloc | apply pw_below_drewN | apply below_drew1 | refine below_set ?_ GE142.out | refine below_set ?_ GE143.out) | exact HB.out))) | (with_reducible refine Kd.C_alloc ?_ _) | (with_reducible refine Kd.C_drewN ?_ _) | (with_reducible refine Kd.C_drew ?_))); (case side2 => exact HC0_2.out); (case side3 => repeat (first | exact (Kd.C_below HR1_2.out (by repeat (first | (with_reducible first | exact HB.out | apply below_alloc | apply pw_below_drewN | apply below_drew1 | refine below_set ?_ GE142.out | refine below_set ?_ GE143.out) | exact HB.out))) | (with_reducible refine Kd.C_alloc ?_ _) | (with_reducible refine Kd.C_drewN ?_ _) | (with_reducible refine Kd.C_drew ?_))); (case side4 => exact HC1_2.out); rintro e w' ⟨rfl, ⟨nd, rfl⟩⟩))
      go_ret
      exact ⟨by first | rfl | (simp [errW_none, errW_some] <;> rfl) | (simp [*, errW_none, errW_some] <;> rfl), by repeat (first | (with_reducible first | exact HB.out | apply below_alloc | apply pw_below_drewN | apply below_drew1 | refine below_set ?_ GE142.out | refine below_set ?_ GE143.out) | exact HB.out)⟩
    · replace c5 := Bool.eq_false_iff.mpr c5
      subst c5
      have H1 : (some false) = some r := by rw [if_neg (show ¬ (false = true) by decide)] at H; exact H
      clear H
      have H := H1
      clear H1
      obtain rfl := Option.some.inj H
      go_enter Tryd.func9, Tryd.ntmps9
      go_wp2_with (first | ((with_reducible refine gate_dst (N := 2) rfl ?_); refine box_event ?hg (N := 2) ?hd (cs := #[.int .i64 a0_0, .slice A0_1 l0_1.length c0_1, .slice A0_2 l0_2.length c0_2]) (t := 26) ?hr ?_; (case hd => rfl); (case hg => rfl); (case hr => first | (go_simp; done) | (go_simp; rfl)); intro gb142 hg w12 hbox hb; have n0_ := Aside0.mk (below_step (by repeat (first | (with_reducible first | exact HB.out | apply below_alloc | apply pw_below_drewN | apply below_drew1) | exact HB.out)) hb); have n1_ := Aside0.mk (hbox); have n2_ := Aside0.mk ((by rw [hg]; exact (below_size (by repeat (first | (with_reducible first | exact HB.out | apply below_alloc | apply pw_below_drewN | apply below_drew1) | exact HB.out))) : w.heap.size ≤ gb142)); have n3_ := Aside0.mk ((by rw [hg]; exact (below_size (by repeat (first | (with_reducible first | exact HB.out | apply below_alloc | apply pw_below_drewN | apply below_drew1) | exact HB.out))) : w.heap.size ≤ gb142)); clear HB; have HB := n0_; have BK142 := n1_; have GW142 := n2_; have GE142 := n3_; clear n0_ n1_ n2_ n3_; clear hb hbox hg) | ((with_reducible refine gate_dst (N := 3) rfl ?_); refine box_event ?hg (N := 3) ?hd (cs := #[.int .i64 a1_0, .slice A1_1 l1_1.length c1_1, .slice A1_2 l1_2.length c1_2]) (t := 30) ?hr ?_; (case hd => rfl); (case hg => rfl); (case hr => first | (go_simp; done) | (go_simp; rfl)); intro gb143 hg w13 hbox hb; have n0_ := Aside0.mk (blk_below (g := gb142) (o := .cells #[.int .i64 a0_0, .slice A0_1 l0_1.length c0_1, .slice A0_2 l0_2.length c0_2] 26 (0, 0)) (by (with_reducible repeat (first | refine blk_drewN ?_ _ | refine blk_drew ?_ | refine blk_alloc ?_ _)); exact BK142.out) hb); have n1_ := Aside0.mk (below_step (by repeat (first | (with_reducible first | exact HB.out | apply below_alloc | apply pw_below_drewN | apply below_drew1 | refine below_set ?_ GE142.out) | exact HB.out)) hb); have n2_ := Aside0.mk (hbox); have n3_ := Aside0.mk ((by rw [hg]; exact (below_size (by repeat (first | (with_reducible first | exact HB.out | apply below_alloc | apply pw_below_drewN | apply below_drew1 | refine below_set ?_ GE142.out) | exact HB.out))) : w.heap.size ≤ gb143)); have n4_ := Aside0.mk ((by rw [hg]; exact (below_size (by repeat (first | (with_reducible first | exact HB.out | apply below_alloc | apply pw_below_drewN | apply below_drew1 | refine below_set ?_ GE142.out) | exact HB.out))) : w.heap.size ≤ gb143)); have n5_ := Aside0.mk ((by rw [hg]; exact Nat.ne_of_lt (blk_lt (g := gb142) (o := .cells #[.int .i64 a0_0, .slice A0_1 l0_1.length c0_1, .slice A0_2 l0_2.length c0_2] 26 (0, 0)) (by (with_reducible repeat (first | refine blk_drewN ?_ _ | refine blk_drew ?_ | refine blk_alloc ?_ _)); exact BK142.out)) : gb142 ≠ gb143)); have n6_ := Aside0.mk ((by rw [hg]; exact Nat.ne_of_gt (blk_lt (g := gb142) (o := .cells #[.int .i64 a0_0, .slice A0_1 l0_1.length c0_1, .slice A0_2 l0_2.length c0_2] 26 (0, 0)) (by (with_reducible repeat (first | refine blk_drewN ?_ _ | refine blk_drew ?_ | refine blk_alloc ?_ _)); exact BK142.out)) : gb143 ≠ gb142)); clear BK142; clear HB; have BK142 := n0_; have HB := n1_; have BK143 := n2_; have GW143 := n3_; have GE143 := n4_; have NB142_143 := n5_; have NB143_142 := n6_; clear n0_ n1_ n2_ n3_ n4_ n5_ n6_; clear hb hbox hg; have hnb14 := NB142_143.out; have hnc14 := NB143_142.out; have hcz15_0 : w13.cell? ⟨gb142, 0, none⟩ = some (.int .i64 a0_0) := (blk_cell BK142.out 0).trans rfl; have hcz15_1 : w13.cell? ⟨gb142, 1, none⟩ = some (.slice A0_1 l0_1.length c0_1) := (blk_cell BK142.out 1).trans rfl; have hcz15_2 : w13.cell? ⟨gb142, 2, none⟩ = some (.slice A0_2 l0_2.length c0_2) := (blk_cell BK142.out 2).trans rfl; have hfz15_0 := blk_frozen BK142.out 0; have hfz15_1 := blk_frozen BK142.out 1; have hfz15_2 := blk_frozen BK142.out 2; have hcz16_0 : w13.cell? ⟨gb143, 0, none⟩ = some (.int .i64 a1_0) := (blk_cell BK143.out 0).trans rfl; have hcz16_1 : w13.cell? ⟨gb143, 1, none⟩ = some (.slice A1_1 l1_1.length c1_1) := (blk_cell BK143.out 1).trans rfl; have hcz16_2 : w13.cell? ⟨gb143, 2, none⟩ = some (.slice A1_2 l1_2.length c1_2) := (blk_cell BK143.out 2).trans rfl; have hfz16_0 := blk_frozen BK143.out 0; have hfz16_1 := blk_frozen BK143.out 1; have hfz16_2 := blk_frozen BK143.out 2) | (go_at_call 25; (with_reducible refine (logbookref01_Words.calls k _ _ l0_1 _ _ l1_1 false _ ?side1 ?side2 ?side3 ?side4 A4.out).mono ?_); (case side1 => repeat (first | exact (Kd.C_below HR0_1.out HB.out) | (with_reducible refine Kd.C_alloc ?_ _) | (with_reducible refine Kd.C_drewN ?_ _) | (with_reducible refine Kd.C_drew ?_))); (case side2 => exact HC0_1.out); (case side3 => repeat (first | exact (Kd.C_below HR1_1.out HB.out) | (with_reducible refine Kd.C_alloc ?_ _) | (with_reducible refine Kd.C_drewN ?_ _) | (with_reducible refine Kd.C_drew ?_))); (case side4 => exact HC1_1.out); rintro e w' ⟨rfl, ⟨nd, rfl⟩⟩))
      go_ret
      exact ⟨by first | rfl | (simp [errW_none, errW_some] <;> rfl) | (simp [*, errW_none, errW_some] <;> rfl), by repeat (first | (with_reducible first | exact HB.out | apply below_alloc | apply pw_below_drewN | apply below_drew1 | refine below_set ?_ GE142.out | refine below_set ?_ GE143.out) | exact HB.out)⟩
  · rw [if_neg c3] at H
    have c3b0 : (a0_0 == a1_0) = false := beq_eq_false_iff_ne.mpr c3
    have c3b1 : (a0_0 != a1_0) = true := bne_iff_ne.mpr c3
    obtain rfl := Option.some.inj H
    go_enter Tryd.func9, Tryd.ntmps9
    go_wp2_with (first | ((with_reducible refine gate_dst (N := 2) rfl ?_); refine box_event ?hg (N := 2) ?hd (cs := #[.int .i64 a0_0, .slice A0_1 l0_1.length c0_1, .slice A0_2 l0_2.length c0_2]) (t := 26) ?hr ?_; (case hd => rfl); (case hg => rfl); (case hr => first | (go_simp; done) | (go_simp; rfl)); intro gb142 hg w17 hbox hb; have n0_ := Aside0.mk (below_step (by repeat (first | (with_reducible first | exact HB.out | apply below_alloc | apply pw_below_drewN | apply below_drew1) | exact HB.out)) hb); have n1_ := Aside0.mk (hbox); have n2_ := Aside0.mk ((by rw [hg]; exact (below_size (by repeat (first | (with_reducible first | exact HB.out | apply below_alloc | apply pw_below_drewN | apply below_drew1) | exact HB.out))) : w.heap.size ≤ gb142)); have n3_ := Aside0.mk ((by rw [hg]; exact (below_size (by repeat (first | (with_reducible first | exact HB.out | apply below_alloc | apply pw_below_drewN | apply below_drew1) | exact HB.out))) : w.heap.size ≤ gb142)); clear HB; have HB := n0_; have BK142 := n1_; have GW142 := n2_; have GE142 := n3_; clear n0_ n1_ n2_ n3_; clear hb hbox hg) | ((with_reducible refine gate_dst (N := 3) rfl ?_); refine box_event ?hg (N := 3) ?hd (cs := #[.int .i64 a1_0, .slice A1_1 l1_1.length c1_1, .slice A1_2 l1_2.length c1_2]) (t := 30) ?hr ?_; (case hd => rfl); (case hg => rfl); (case hr => first | (go_simp; done) | (go_simp; rfl)); intro gb143 hg w18 hbox hb; have n0_ := Aside0.mk (blk_below (g := gb142) (o := .cells #[.int .i64 a0_0, .slice A0_1 l0_1.length c0_1, .slice A0_2 l0_2.length c0_2] 26 (0, 0)) (by (with_reducible repeat (first | refine blk_drewN ?_ _ | refine blk_drew ?_ | refine blk_alloc ?_ _)); exact BK142.out) hb); have n1_ := Aside0.mk (below_step (by repeat (first | (with_reducible first | exact HB.out | apply below_alloc | apply pw_below_drewN | apply below_drew1 | refine below_set ?_ GE142.out) | exact HB.out)) hb); have n2_ := Aside0.mk (hbox); have n3_ := Aside0.mk ((by rw [hg]; exact (below_size (by repeat (first | (with_reducible first | exact HB.out | apply below_alloc | apply pw_below_drewN | apply below_drew1 | refine below_set ?_ GE142.out) | exact HB.out))) : w.heap.size ≤ gb143)); have n4_ := Aside0.mk ((by rw [hg]; exact (below_size (by repeat (first | (with_reducible first | exact HB.out | apply below_alloc | apply pw_below_drewN | apply below_drew1 | refine below_set ?_ GE142.out) | exact HB.out))) : w.heap.size ≤ gb143)); have n5_ := Aside0.mk ((by rw [hg]; exact Nat.ne_of_lt (blk_lt (g := gb142) (o := .cells #[.int .i64 a0_0, .slice A0_1 l0_1.length c0_1, .slice A0_2 l0_2.length c0_2] 26 (0, 0)) (by (with_reducible repeat (first | refine blk_drewN ?_ _ | refine blk_drew ?_ | refine blk_alloc ?_ _)); exact BK142.out)) : gb142 ≠ gb143)); have n6_ := Aside0.mk ((by rw [hg]; exact Nat.ne_of_gt (blk_lt (g := gb142) (o := .cells #[.int .i64 a0_0, .slice A0_1 l0_1.length c0_1, .slice A0_2 l0_2.length c0_2] 26 (0, 0)) (by (with_reducible repeat (first | refine blk_drewN ?_ _ | refine blk_drew ?_ | refine blk_alloc ?_ _)); exact BK142.out)) : gb143 ≠ gb142)); clear BK142; clear HB; have BK142 := n0_; have HB := n1_; have BK143 := n2_; have GW143 := n3_; have GE143 := n4_; have NB142_143 := n5_; have NB143_142 := n6_; clear n0_ n1_ n2_ n3_ n4_ n5_ n6_; clear hb hbox hg; have hnb19 := NB142_143.out; have hnc19 := NB143_142.out; have hcz20_0 : w18.cell? ⟨gb142, 0, none⟩ = some (.int .i64 a0_0) := (blk_cell BK142.out 0).trans rfl; have hcz20_1 : w18.cell? ⟨gb142, 1, none⟩ = some (.slice A0_1 l0_1.length c0_1) := (blk_cell BK142.out 1).trans rfl; have hcz20_2 : w18.cell? ⟨gb142, 2, none⟩ = some (.slice A0_2 l0_2.length c0_2) := (blk_cell BK142.out 2).trans rfl; have hfz20_0 := blk_frozen BK142.out 0; have hfz20_1 := blk_frozen BK142.out 1; have hfz20_2 := blk_frozen BK142.out 2; have hcz21_0 : w18.cell? ⟨gb143, 0, none⟩ = some (.int .i64 a1_0) := (blk_cell BK143.out 0).trans rfl; have hcz21_1 : w18.cell? ⟨gb143, 1, none⟩ = some (.slice A1_1 l1_1.length c1_1) := (blk_cell BK143.out 1).trans rfl; have hcz21_2 : w18.cell? ⟨gb143, 2, none⟩ = some (.slice A1_2 l1_2.length c1_2) := (blk_cell BK143.out 2).trans rfl; have hfz21_0 := blk_frozen BK143.out 0; have hfz21_1 := blk_frozen BK143.out 1; have hfz21_2 := blk_frozen BK143.out 2))
    go_ret
    exact ⟨by first | rfl | (simp [errW_none, errW_some] <;> rfl) | (simp [*, errW_none, errW_some] <;> rfl), by repeat (first | (with_reducible first | exact HB.out | apply below_alloc | apply pw_below_drewN | apply below_drew1 | refine below_set ?_ GE142.out | refine below_set ?_ GE143.out) | exact HB.out)⟩

-- GIVEN rounds=1 making=1 needs=logbook/op.Parse,logbook/logbooklaw46.same
/-! ### awake: by hand -/
abbrev awLine : ByteArray := ⟨#[97, 112, 112, 101, 110, 100, 32, 53, 32, 54, 32, 65, 61, 49]⟩
abbrev awText : ByteArray := ⟨#[65, 61, 49]⟩
def logbooklaw46_awake.f (k : Nat) : Option Bool := (op_Parse.f k awLine).bind fun r => if r = (2, [5, 6], [awText], 0) then logbooklaw46_same.f k 2 [5, 6] [awText] 2 [5, 6] [awText] else none
theorem logbooklaw46_awake.mono : ∀ k, LeO (logbooklaw46_awake.f k) (logbooklaw46_awake.f (k + 1)) := by
  intro k
  unfold logbooklaw46_awake.f
  repeat' first
    | (with_reducible exact op_Parse.mono _ _)
    | (with_reducible exact logbooklaw46_same.mono _ _ _ _ _ _ _)
    | (with_reducible exact LeO.refl _)
    | (with_reducible exact LeO.none _)
    | (with_reducible refine LeO.ite ?_ ?_)
    | (with_reducible refine LeO.bind ?_ (fun _ => ?_))
set_option maxHeartbeats 6400000 in
theorem logbooklaw46_awake.calls (k : Nat) (r : Bool) (w : World) (h : logbooklaw46_awake.f k = some r) :
    Calls Tryd.prog 6 #[] w fun e w' => e = .returned (.bool r) ∧ Below w.heap.size w w' := by
  unfold logbooklaw46_awake.f at h
  obtain ⟨r0, h1, h⟩ := Option.bind_eq_some_iff.1 h
  by_cases hr : r0 = (2, [5, 6], [awText], 0)
  case neg => rw [if_neg hr] at h; cases h
  rw [if_pos hr] at h
  subst hr
  have HP := Lib.hid h1
  have hcall : ∀ (W : World) (A1 : Option Addr) (c1 : Nat) (A2 : Option Addr) (c2 : Nat) (B1 B2 : Addr), Kd.C (Kd.int .u64) W A1 2 [5, 6] → 2 ≤ c1 → Kd.C Kd.string W A2 1 [awText] → 1 ≤ c2 → Kd.C (Kd.int .u64) W (some B1) 2 [5, 6] → Kd.C Kd.string W (some B2) 1 [awText] →
      Calls Tryd.prog 9 #[.agg #[.int .i64 2, .slice A1 2 c1, .slice A2 1 c2], .agg #[.int .i64 2, .slice (some B1) 2 2, .slice (some B2) 1 1]] W fun e w' => e = .returned (.bool r) ∧ Below W.heap.size W w' :=
    fun W A1 c1 A2 c2 B1 B2 g1 g2 g3 g4 g5 g6 => logbooklaw46_same.calls k 2 A1 c1 [5, 6] A2 c2 [awText] 2 (some B1) 2 [5, 6] (some B2) 1 [awText] r W g1 g2 g3 g4 g5 (Nat.le_refl _) g6 (Nat.le_refl _) h
  have HC := Lib.hid hcall
  clear h h1 hcall
  go_enter Tryd.func6, Tryd.ntmps6
  go_wp2_with (first
    | (go_at_call 7; (with_reducible refine (op_Parse.calls k awLine 2 [5, 6] [awText] 0 _ HP.out).mono ?_); rintro e w2 ⟨A1, c1, A2, c2, rfl, hc1, hC1, hc2, hC2, hb2⟩; simp only [List.length_cons, List.length_nil, Nat.zero_add, Nat.reduceAdd] at hc1 hC1 hc2 hC2 ⊢; have HC1 := Lib.hid hC1; have HC2 := Lib.hid hC2; have HB2 := Lib.hid hb2; have HO := Lib.hid (heap_alloc_new w2 (.cells #[.int .i64 0, .slice none 0 0, .slice none 0 0] 26)); clear hC1 hC2 hb2)
    | (refine store_ev rfl 26 _ _ rfl rfl w2.heap.size #[.int .i64 2, .slice A1 2 c1, .slice A2 1 c2] rfl rfl 26 _ HO.out (by kernel_rfl) (by kernel_rfl) (by kernel_rfl) ?_; intro w4 hb4 hp4; have g0c := blk_cell hb4 0; have g1c := blk_cell hb4 1; have g2c := blk_cell hb4 2; simp at g0c g1c g2c; have HB4 : Hid (Below w2.heap.size w2 w4) := Lib.hid (hp4.below ((Below.refl _ _).alloc (Nat.le_refl _) _) (Nat.le_refl _)); clear hb4 hp4)
    | (go_at_call 9; (with_reducible refine (HC.out _ A1 c1 A2 c2 ⟨w4.heap.size, 0, none⟩ ⟨w4.heap.size + 1, 0, none⟩ ?a1 hc1 ?a2 hc2 ?a3 ?a4).mono ?_); (case a1 => exact Kd.C_below HC1.out (((HB4.out.alloc HB4.out.size _)).alloc (by have := HB4.out.size; simp; omega) _)); (case a2 => exact Kd.C_below HC2.out (((HB4.out.alloc HB4.out.size _)).alloc (by have := HB4.out.size; simp; omega) _)); (case a3 => exact C_lit (enc := Value.int .u64) (xs := [5, 6]) (blk_alloc (blk_new _ _) _) (by decide)); (case a4 => have hn := blk_new (w4.alloc (.cells #[.int .u64 5, .int .u64 6] 47)) (.cells #[.string awText] 9); rw [show (w4.alloc (.cells #[.int .u64 5, .int .u64 6] 47)).heap.size = w4.heap.size + 1 from (by simp)] at hn; exact C_lit (enc := Value.string) (xs := [awText]) hn (by decide)); rintro e w6 ⟨rfl, hb6⟩))
  go_ret
  exact ⟨rfl, HB2.out.trans ((((HB4.out.alloc HB4.out.size _).alloc (by have := HB4.out.size; simp; omega) _).trans (hb6.mono (by have := HB4.out.size; simp; omega))).mono HB2.out.size)⟩

/-! ### logbooklaw46_light: function 13 -/
def logbooklaw46_light.l0 : Nat → Int → Int → Int → List Int → List ByteArray → Option (Bool)
  | 0, _, _, _, _, _ => none
  | k + 1, x3, x4, x147000, x147001, x147002 => if x4 < (x147002.length : Int) then (if x4 < 80 then (if 0 ≤ x4 then (logbooklaw46_light.l0 k (wrap64 (x3 + (mn ((rdOf ByteArray.empty x147002 x4).size : Int) 3000))) (wrap64 (x4 + 1)) x147000 x147001 x147002) else (none)) else (if (x147002.length : Int) ≤ 80 then (if (x147001.length : Int) ≤ 20 then (some (decide (x3 ≤ 3000))) else (some false)) else (some false))) else (if (x147002.length : Int) ≤ 80 then (if (x147001.length : Int) ≤ 20 then (some (decide (x3 ≤ 3000))) else (some false)) else (some false))
def logbooklaw46_light.f (k : Nat) (a0_0 : Int) (l0_1 : List Int) (l0_2 : List ByteArray) : Option (Bool) := logbooklaw46_light.l0 k 0 0 a0_0 l0_1 l0_2
theorem logbooklaw46_light.mono_l : ∀ k, (∀ y0 y1 y2 y3 y4, LeO (logbooklaw46_light.l0 k y0 y1 y2 y3 y4) (logbooklaw46_light.l0 (k + 1) y0 y1 y2 y3 y4))
  | 0 => fun _ _ _ _ _ r h => by simp [logbooklaw46_light.l0] at h
  | k + 1 => by
    have ih0 := logbooklaw46_light.mono_l k
    · intro y0 y1 y2 y3 y4
      unfold logbooklaw46_light.l0
      repeat' first
      | (with_reducible exact ih0 _ _ _ _ _)
      | (with_reducible exact LeO.refl _)
      | (with_reducible exact LeO.none _)
      | (with_reducible refine LeO.ite ?_ ?_)
      | (with_reducible refine LeO.bind ?_ (fun _ => ?_))
      | exact ih0 _ _ _ _ _
      | exact LeO.none _
      | refine LeO.ite ?_ ?_
      | refine LeO.bind ?_ (fun _ => ?_)
theorem logbooklaw46_light.mono : ∀ a0 a1 a2 k, LeO (logbooklaw46_light.f k a0 a1 a2) (logbooklaw46_light.f (k + 1) a0 a1 a2) := by
  intro a0 a1 a2 k
  have ih0 := logbooklaw46_light.mono_l k
  unfold logbooklaw46_light.f
  repeat' first
      | (with_reducible exact ih0 _ _ _ _ _)
      | (with_reducible exact LeO.refl _)
      | (with_reducible exact LeO.none _)
      | (with_reducible refine LeO.ite ?_ ?_)
      | (with_reducible refine LeO.bind ?_ (fun _ => ?_))
      | exact ih0 _ _ _ _ _
      | exact LeO.none _
      | refine LeO.ite ?_ ?_
      | refine LeO.bind ?_ (fun _ => ?_)
set_option maxHeartbeats 8000000 in
set_option maxRecDepth 100000 in
theorem logbooklaw46_light.calls (k : Nat) (a0_0 : Int) (A0_1 : Option Addr) (c0_1 : Nat) (l0_1 : List Int) (A0_2 : Option Addr) (c0_2 : Nat) (l0_2 : List ByteArray) (r : Bool) (w : World) (hr0_1 : Kd.C (Kd.int .u64) w A0_1 l0_1.length l0_1) (hc0_1 : l0_1.length ≤ c0_1) (hr0_2 : Kd.C Kd.string w A0_2 l0_2.length l0_2) (hc0_2 : l0_2.length ≤ c0_2) (h : logbooklaw46_light.f k a0_0 l0_1 l0_2 = some r) :
    Calls Tryd.prog 13 #[.agg #[.int .i64 a0_0, .slice A0_1 l0_1.length c0_1, .slice A0_2 l0_2.length c0_2]] w fun e w' => e = .returned (.bool r) ∧ Below w.heap.size w w' := by
  have hu30 := Tryd.underlying30
  have HR0_1 := Aside0.mk hr0_1
  have HC0_1 := Aside0.mk hc0_1
  clear hr0_1 hc0_1
  have HR0_2 := Aside0.mk hr0_2
  have HC0_2 := Aside0.mk hc0_2
  clear hr0_2 hc0_2
  have HB := Aside0.mk (Below.refl w.heap.size w)
  have H : (logbooklaw46_light.l0 k 0 0 a0_0 l0_1 l0_2) = some r := h
  clear h
  have H' := Aside0.mk H
  clear H
  go_enter Tryd.func13, Tryd.ntmps13
  go_wp2_with (first | ((with_reducible refine gate_dst (N := 1) rfl ?_); (try (refine gate_guard (by rfl) ?_; dsimp only)); refine box_event ?hg (N := 1) ?hd (cs := #[.int .i64 a0_0, .slice A0_1 l0_1.length c0_1, .slice A0_2 l0_2.length c0_2]) (t := 30) ?hr ?_; (case hd => rfl); (case hg => rfl); (case hr => first | (go_simp; done) | (go_simp; rfl)); intro gb146 hg w2 hbox hb; have n0_ := Aside0.mk (below_step (by repeat (first | (with_reducible first | exact HB.out | apply below_alloc | apply pw_below_drewN | apply below_drew1) | exact HB.out)) hb); have n1_ := Aside0.mk (hbox); have n2_ := Aside0.mk ((by rw [hg]; exact (below_size (by repeat (first | (with_reducible first | exact HB.out | apply below_alloc | apply pw_below_drewN | apply below_drew1) | exact HB.out))) : w.heap.size ≤ gb146)); have n3_ := Aside0.mk ((by rw [hg]; exact (below_size (by repeat (first | (with_reducible first | exact HB.out | apply below_alloc | apply pw_below_drewN | apply below_drew1) | exact HB.out))) : w.heap.size ≤ gb146)); clear HB; have HB := n0_; have BK146 := n1_; have GW146 := n2_; have GE146 := n3_; clear n0_ n1_ n2_ n3_; clear hb hbox hg))
  go_loopg [3, 4] k (fun kq v3 v4 w' => ∃ (x3_1 : Int) (x4_1 : Int), v3 = .int .i64 x3_1 ∧ v4 = .int .i64 x4_1 ∧ Aside0 (logbooklaw46_light.l0 kq x3_1 x4_1 a0_0 l0_1 l0_2 = some r) ∧ Aside0 (kq ≤ k) ∧ Aside0 (w'.heap[gb146]? = some (.cells #[.int .i64 a0_0, (.slice A0_1 l0_1.length c0_1), (.slice A0_2 l0_2.length c0_2)] 30 (0, 0))) ∧ Aside0 (Below w.heap.size w w'))
  case atStart => exact ⟨(0), (0), (by first | rfl | (simp; done) | (simp [*]; done) | exact isEmpty_bne _), (by first | rfl | (simp; done) | (simp [*]; done) | exact isEmpty_bne _), H', ⟨Nat.le_refl _⟩, ⟨by (with_reducible repeat (first | refine blk_drewN ?_ _ | refine blk_drew ?_ | refine blk_alloc ?_ _)); exact BK146.out⟩, ⟨by repeat (first | (with_reducible first | exact HB.out | apply below_alloc | apply pw_below_drewN | apply below_drew1 | refine below_set ?_ GE146.out) | exact HB.out)⟩⟩
  case round =>
    clear H'
    try clear c1
    try clear p2
    obtain ⟨x3_1, x4_1, rfl, rfl, HA, HK1, BK146, HB⟩ := hrel
    cases gk with
    | zero => exact absurd HA.out (by simp [logbooklaw46_light.l0])
    | succ k1 =>
      have H := HA.out
      clear HA
      simp only [logbooklaw46_light.l0] at H
      by_cases c3 : x4_1 < (l0_2.length : Int)
      · rw [if_pos c3] at H
        have c3b0 : decide (x4_1 < (l0_2.length : Int)) = true := decide_eq_true c3
        clear c3
        by_cases c4 : x4_1 < 80
        · rw [if_pos c4] at H
          have c4b0 : decide (x4_1 < 80) = true := decide_eq_true c4
          clear c4
          by_cases c5 : 0 ≤ x4_1
          · rw [if_pos c5] at H
            have c5b0 : decide (0 ≤ x4_1) = true := decide_eq_true c5
            clear c5
            obtain ⟨ji6, hji6⟩ : ∃ j_ : Int, (mn ((rdOf ByteArray.empty l0_2 x4_1).size : Int) 3000) = j_ := ⟨_, rfl⟩
            replace H : (logbooklaw46_light.l0 k1 (wrap64 (x3_1 + (ji6))) (wrap64 (x4_1 + 1)) a0_0 l0_1 l0_2) = some r := by first | (rw [hji6] at H; exact H) | (simp only [hji6] at H ⊢; exact H)
            have hji6_ : (if 3000 < ((rdOf ByteArray.empty l0_2 x4_1).size : Int) then 3000 else ((rdOf ByteArray.empty l0_2 x4_1).size : Int)) = ji6 := hji6
            have H' := Aside0.mk H
            clear H
            have hcz7_0 : wr.cell? ⟨gb146, 0, none⟩ = some (.int .i64 a0_0) := (blk_cell BK146.out 0).trans rfl
            have hcz7_1 : wr.cell? ⟨gb146, 1, none⟩ = some (.slice A0_1 l0_1.length c0_1) := (blk_cell BK146.out 1).trans rfl
            have hcz7_2 : wr.cell? ⟨gb146, 2, none⟩ = some (.slice A0_2 l0_2.length c0_2) := (blk_cell BK146.out 2).trans rfl
            have hfz7_0 := blk_frozen BK146.out 0
            have hfz7_1 := blk_frozen BK146.out 1
            have hfz7_2 := blk_frozen BK146.out 2
            have p147 : 0 ≤ (x4_1 : Int) := of_decide_eq_true (by first | (with_reducible assumption) | assumption)
            have q147 : x4_1 < (l0_2.length : Int) := of_decide_eq_true (by first | (with_reducible assumption) | assumption)
            obtain ⟨ad147, e147, hx147_0⟩ := Kd.at_string HR0_2.out x4_1 p147 q147
            cases e147
            replace hx147_0 := (HB.out.cell (World.block_lt_of_cell? w _ hx147_0)).trans hx147_0
            replace p147 := eq_true p147
            replace q147 := eq_true q147
            go_wp2
            go_roundg k1
            case measure => have := HK1.out; omega
            case rel => exact ⟨(wrap64 (x3_1 + (ji6))), (wrap64 (x4_1 + 1)), (by first | rfl | (simp; done) | (simp only [← hji6] <;> (first | rfl | simp)) | (simp [*]; done)), (by first | rfl | (simp; done) | (simp [*]; done) | exact isEmpty_bne _), H', ⟨by have := HK1.out; omega⟩, ⟨by (with_reducible repeat (first | refine blk_drewN ?_ _ | refine blk_drew ?_ | refine blk_alloc ?_ _)); exact BK146.out⟩, ⟨by repeat (first | (with_reducible first | exact HB.out | apply below_alloc | apply pw_below_drewN | apply below_drew1 | refine below_set ?_ GE146.out) | exact HB.out)⟩⟩
          · rw [if_neg c5] at H
            exact absurd H (by simp)
        · rw [if_neg c4] at H
          have c4b0 : decide (x4_1 < 80) = false := decide_eq_false c4
          clear c4
          by_cases c8 : (l0_2.length : Int) ≤ 80
          · rw [if_pos c8] at H
            have c8b0 : decide ((l0_2.length : Int) ≤ 80) = true := decide_eq_true c8
            have c8b1 : decide (l0_2.length ≤ 80) = true := decide_eq_true (by omega)
            clear c8
            by_cases c9 : (l0_1.length : Int) ≤ 20
            · rw [if_pos c9] at H
              have c9b0 : decide ((l0_1.length : Int) ≤ 20) = true := decide_eq_true c9
              have c9b1 : decide (l0_1.length ≤ 20) = true := decide_eq_true (by omega)
              clear c9
              obtain rfl := Option.some.inj H
              have hcz10_0 : wr.cell? ⟨gb146, 0, none⟩ = some (.int .i64 a0_0) := (blk_cell BK146.out 0).trans rfl
              have hcz10_1 : wr.cell? ⟨gb146, 1, none⟩ = some (.slice A0_1 l0_1.length c0_1) := (blk_cell BK146.out 1).trans rfl
              have hcz10_2 : wr.cell? ⟨gb146, 2, none⟩ = some (.slice A0_2 l0_2.length c0_2) := (blk_cell BK146.out 2).trans rfl
              have hfz10_0 := blk_frozen BK146.out 0
              have hfz10_1 := blk_frozen BK146.out 1
              have hfz10_2 := blk_frozen BK146.out 2
              go_wp2
              go_ret
              exact ⟨by first | rfl | (simp [errW_none, errW_some] <;> rfl) | (simp [*, errW_none, errW_some] <;> rfl), by repeat (first | (with_reducible first | exact HB.out | apply below_alloc | apply pw_below_drewN | apply below_drew1 | refine below_set ?_ GE146.out) | exact HB.out)⟩
            · rw [if_neg c9] at H
              have c9b0 : decide ((l0_1.length : Int) ≤ 20) = false := decide_eq_false c9
              have c9b1 : decide (l0_1.length ≤ 20) = false := decide_eq_false (by omega)
              clear c9
              obtain rfl := Option.some.inj H
              have hcz11_0 : wr.cell? ⟨gb146, 0, none⟩ = some (.int .i64 a0_0) := (blk_cell BK146.out 0).trans rfl
              have hcz11_1 : wr.cell? ⟨gb146, 1, none⟩ = some (.slice A0_1 l0_1.length c0_1) := (blk_cell BK146.out 1).trans rfl
              have hcz11_2 : wr.cell? ⟨gb146, 2, none⟩ = some (.slice A0_2 l0_2.length c0_2) := (blk_cell BK146.out 2).trans rfl
              have hfz11_0 := blk_frozen BK146.out 0
              have hfz11_1 := blk_frozen BK146.out 1
              have hfz11_2 := blk_frozen BK146.out 2
              go_wp2
              go_ret
              exact ⟨by first | rfl | (simp [errW_none, errW_some] <;> rfl) | (simp [*, errW_none, errW_some] <;> rfl), by repeat (first | (with_reducible first | exact HB.out | apply below_alloc | apply pw_below_drewN | apply below_drew1 | refine below_set ?_ GE146.out) | exact HB.out)⟩
          · rw [if_neg c8] at H
            have c8b0 : decide ((l0_2.length : Int) ≤ 80) = false := decide_eq_false c8
            have c8b1 : decide (l0_2.length ≤ 80) = false := decide_eq_false (by omega)
            clear c8
            obtain rfl := Option.some.inj H
            have hcz12_0 : wr.cell? ⟨gb146, 0, none⟩ = some (.int .i64 a0_0) := (blk_cell BK146.out 0).trans rfl
            have hcz12_1 : wr.cell? ⟨gb146, 1, none⟩ = some (.slice A0_1 l0_1.length c0_1) := (blk_cell BK146.out 1).trans rfl
            have hcz12_2 : wr.cell? ⟨gb146, 2, none⟩ = some (.slice A0_2 l0_2.length c0_2) := (blk_cell BK146.out 2).trans rfl
            have hfz12_0 := blk_frozen BK146.out 0
            have hfz12_1 := blk_frozen BK146.out 1
            have hfz12_2 := blk_frozen BK146.out 2
            go_wp2
            go_ret
            exact ⟨by first | rfl | (simp [errW_none, errW_some] <;> rfl) | (simp [*, errW_none, errW_some] <;> rfl), by repeat (first | (with_reducible first | exact HB.out | apply below_alloc | apply pw_below_drewN | apply below_drew1 | refine below_set ?_ GE146.out) | exact HB.out)⟩
      · rw [if_neg c3] at H
        have c3b0 : decide (x4_1 < (l0_2.length : Int)) = false := decide_eq_false c3
        clear c3
        by_cases c13 : (l0_2.length : Int) ≤ 80
        · rw [if_pos c13] at H
          have c13b0 : decide ((l0_2.length : Int) ≤ 80) = true := decide_eq_true c13
          have c13b1 : decide (l0_2.length ≤ 80) = true := decide_eq_true (by omega)
          clear c13
          by_cases c14 : (l0_1.length : Int) ≤ 20
          · rw [if_pos c14] at H
            have c14b0 : decide ((l0_1.length : Int) ≤ 20) = true := decide_eq_true c14
            have c14b1 : decide (l0_1.length ≤ 20) = true := decide_eq_true (by omega)
            clear c14
            obtain rfl := Option.some.inj H
            have hcz15_0 : wr.cell? ⟨gb146, 0, none⟩ = some (.int .i64 a0_0) := (blk_cell BK146.out 0).trans rfl
            have hcz15_1 : wr.cell? ⟨gb146, 1, none⟩ = some (.slice A0_1 l0_1.length c0_1) := (blk_cell BK146.out 1).trans rfl
            have hcz15_2 : wr.cell? ⟨gb146, 2, none⟩ = some (.slice A0_2 l0_2.length c0_2) := (blk_cell BK146.out 2).trans rfl
            have hfz15_0 := blk_frozen BK146.out 0
            have hfz15_1 := blk_frozen BK146.out 1
            have hfz15_2 := blk_frozen BK146.out 2
            go_wp2
            go_ret
            exact ⟨by first | rfl | (simp [errW_none, errW_some] <;> rfl) | (simp [*, errW_none, errW_some] <;> rfl), by repeat (first | (with_reducible first | exact HB.out | apply below_alloc | apply pw_below_drewN | apply below_drew1 | refine below_set ?_ GE146.out) | exact HB.out)⟩
          · rw [if_neg c14] at H
            have c14b0 : decide ((l0_1.length : Int) ≤ 20) = false := decide_eq_false c14
            have c14b1 : decide (l0_1.length ≤ 20) = false := decide_eq_false (by omega)
            clear c14
            obtain rfl := Option.some.inj H
            have hcz16_0 : wr.cell? ⟨gb146, 0, none⟩ = some (.int .i64 a0_0) := (blk_cell BK146.out 0).trans rfl
            have hcz16_1 : wr.cell? ⟨gb146, 1, none⟩ = some (.slice A0_1 l0_1.length c0_1) := (blk_cell BK146.out 1).trans rfl
            have hcz16_2 : wr.cell? ⟨gb146, 2, none⟩ = some (.slice A0_2 l0_2.length c0_2) := (blk_cell BK146.out 2).trans rfl
            have hfz16_0 := blk_frozen BK146.out 0
            have hfz16_1 := blk_frozen BK146.out 1
            have hfz16_2 := blk_frozen BK146.out 2
            go_wp2
            go_ret
            exact ⟨by first | rfl | (simp [errW_none, errW_some] <;> rfl) | (simp [*, errW_none, errW_some] <;> rfl), by repeat (first | (with_reducible first | exact HB.out | apply below_alloc | apply pw_below_drewN | apply below_drew1 | refine below_set ?_ GE146.out) | exact HB.out)⟩
        · rw [if_neg c13] at H
          have c13b0 : decide ((l0_2.length : Int) ≤ 80) = false := decide_eq_false c13
          have c13b1 : decide (l0_2.length ≤ 80) = false := decide_eq_false (by omega)
          clear c13
          obtain rfl := Option.some.inj H
          have hcz17_0 : wr.cell? ⟨gb146, 0, none⟩ = some (.int .i64 a0_0) := (blk_cell BK146.out 0).trans rfl
          have hcz17_1 : wr.cell? ⟨gb146, 1, none⟩ = some (.slice A0_1 l0_1.length c0_1) := (blk_cell BK146.out 1).trans rfl
          have hcz17_2 : wr.cell? ⟨gb146, 2, none⟩ = some (.slice A0_2 l0_2.length c0_2) := (blk_cell BK146.out 2).trans rfl
          have hfz17_0 := blk_frozen BK146.out 0
          have hfz17_1 := blk_frozen BK146.out 1
          have hfz17_2 := blk_frozen BK146.out 2
          go_wp2
          go_ret
          exact ⟨by first | rfl | (simp [errW_none, errW_some] <;> rfl) | (simp [*, errW_none, errW_some] <;> rfl), by repeat (first | (with_reducible first | exact HB.out | apply below_alloc | apply pw_below_drewN | apply below_drew1 | refine below_set ?_ GE146.out) | exact HB.out)⟩

/-! ### logbookref46_Rows: function 10 -/
def logbookref46_Rows.f  : Option ((List (S39))) := some (([(⟨(⟨#[111, 112, 101, 110]⟩ : ByteArray), 1, 0, 0⟩ : S39), (⟨(⟨#[97, 112, 112, 101, 110, 100]⟩ : ByteArray), 2, 1, 64⟩ : S39), (⟨(⟨#[115, 121, 110, 99]⟩ : ByteArray), 0, 0, 0⟩ : S39), (⟨(⟨#[114, 111, 116, 97, 116, 101]⟩ : ByteArray), 0, 0, 0⟩ : S39), (⟨(⟨#[118, 97, 99, 117, 117, 109]⟩ : ByteArray), 1, 0, 0⟩ : S39), (⟨(⟨#[99, 108, 111, 115, 101]⟩ : ByteArray), 0, 0, 0⟩ : S39), (⟨(⟨#[97, 114, 109]⟩ : ByteArray), 1, 0, 0⟩ : S39), (⟨(⟨#[99, 114, 97, 115, 104]⟩ : ByteArray), 0, 1, 1⟩ : S39), (⟨(⟨#[109, 97, 116, 99, 104]⟩ : ByteArray), 0, 1, 1⟩ : S39), (⟨(⟨#[111, 114]⟩ : ByteArray), 0, 0, 0⟩ : S39), (⟨(⟨#[97, 110, 100]⟩ : ByteArray), 0, 0, 0⟩ : S39), (⟨(⟨#[102, 108, 117, 115, 104]⟩ : ByteArray), 0, 0, 0⟩ : S39), (⟨(⟨#[104, 101, 97, 100]⟩ : ByteArray), 0, 0, 0⟩ : S39), (⟨(⟨#[116, 97, 105, 108]⟩ : ByteArray), 0, 0, 0⟩ : S39), (⟨(⟨#[115, 101, 101, 107]⟩ : ByteArray), 1, 0, 0⟩ : S39), (⟨(⟨#[114, 101, 97, 108]⟩ : ByteArray), 1, 0, 0⟩ : S39), (⟨(⟨#[109, 111, 110, 111]⟩ : ByteArray), 2, 0, 0⟩ : S39), (⟨(⟨#[110, 101, 120, 116]⟩ : ByteArray), 0, 0, 0⟩ : S39), (⟨(⟨#[112, 114, 101, 118, 105, 111, 117, 115]⟩ : ByteArray), 0, 0, 0⟩ : S39), (⟨(⟨#[115, 107, 105, 112]⟩ : ByteArray), 1, 0, 0⟩ : S39), (⟨(⟨#[98, 97, 99, 107]⟩ : ByteArray), 1, 0, 0⟩ : S39), (⟨(⟨#[99, 117, 114, 115, 111, 114]⟩ : ByteArray), 0, 0, 0⟩ : S39), (⟨(⟨#[116, 111]⟩ : ByteArray), 0, 1, 1⟩ : S39), (⟨(⟨#[116, 101, 115, 116]⟩ : ByteArray), 0, 1, 1⟩ : S39), (⟨(⟨#[99, 111, 117, 110, 116]⟩ : ByteArray), 0, 0, 0⟩ : S39), (⟨(⟨#[102, 105, 108, 101, 115]⟩ : ByteArray), 0, 0, 0⟩ : S39), (⟨(⟨#[118, 101, 114, 105, 102, 121]⟩ : ByteArray), 0, 0, 0⟩ : S39), (⟨(⟨#[102, 105, 101, 108, 100, 115]⟩ : ByteArray), 0, 0, 0⟩ : S39), (⟨(⟨#[118, 97, 108, 117, 101, 115]⟩ : ByteArray), 0, 1, 1⟩ : S39), (⟨(⟨#[116, 111, 112]⟩ : ByteArray), 1, 1, 1⟩ : S39), (⟨(⟨#[115, 104, 111, 114, 116]⟩ : ByteArray), 0, 0, 0⟩ : S39), (⟨(⟨#[106, 115, 111, 110]⟩ : ByteArray), 0, 0, 0⟩ : S39), (⟨(⟨#[101, 120, 112, 111, 114, 116]⟩ : ByteArray), 0, 0, 0⟩ : S39)] : List (S39)))
set_option maxHeartbeats 8000000 in
set_option maxRecDepth 100000 in
theorem logbookref46_Rows.calls  (r : List (S39)) (w : World) (h : logbookref46_Rows.f  = some r) :
    Calls Tryd.prog 10 #[] w fun e w' => ∃ v0_ : Value, e = .returned (v0_) ∧ Kd.R k39 39 w' w.heap.size (fun _ => True) v0_ r ∧ Below w.heap.size w w' := by
  have hu39 := Tryd.underlying39
  have HB := Aside0.mk (Below.refl w.heap.size w)
  have H : (some (([(⟨(⟨#[111, 112, 101, 110]⟩ : ByteArray), 1, 0, 0⟩ : S39), (⟨(⟨#[97, 112, 112, 101, 110, 100]⟩ : ByteArray), 2, 1, 64⟩ : S39), (⟨(⟨#[115, 121, 110, 99]⟩ : ByteArray), 0, 0, 0⟩ : S39), (⟨(⟨#[114, 111, 116, 97, 116, 101]⟩ : ByteArray), 0, 0, 0⟩ : S39), (⟨(⟨#[118, 97, 99, 117, 117, 109]⟩ : ByteArray), 1, 0, 0⟩ : S39), (⟨(⟨#[99, 108, 111, 115, 101]⟩ : ByteArray), 0, 0, 0⟩ : S39), (⟨(⟨#[97, 114, 109]⟩ : ByteArray), 1, 0, 0⟩ : S39), (⟨(⟨#[99, 114, 97, 115, 104]⟩ : ByteArray), 0, 1, 1⟩ : S39), (⟨(⟨#[109, 97, 116, 99, 104]⟩ : ByteArray), 0, 1, 1⟩ : S39), (⟨(⟨#[111, 114]⟩ : ByteArray), 0, 0, 0⟩ : S39), (⟨(⟨#[97, 110, 100]⟩ : ByteArray), 0, 0, 0⟩ : S39), (⟨(⟨#[102, 108, 117, 115, 104]⟩ : ByteArray), 0, 0, 0⟩ : S39), (⟨(⟨#[104, 101, 97, 100]⟩ : ByteArray), 0, 0, 0⟩ : S39), (⟨(⟨#[116, 97, 105, 108]⟩ : ByteArray), 0, 0, 0⟩ : S39), (⟨(⟨#[115, 101, 101, 107]⟩ : ByteArray), 1, 0, 0⟩ : S39), (⟨(⟨#[114, 101, 97, 108]⟩ : ByteArray), 1, 0, 0⟩ : S39), (⟨(⟨#[109, 111, 110, 111]⟩ : ByteArray), 2, 0, 0⟩ : S39), (⟨(⟨#[110, 101, 120, 116]⟩ : ByteArray), 0, 0, 0⟩ : S39), (⟨(⟨#[112, 114, 101, 118, 105, 111, 117, 115]⟩ : ByteArray), 0, 0, 0⟩ : S39), (⟨(⟨#[115, 107, 105, 112]⟩ : ByteArray), 1, 0, 0⟩ : S39), (⟨(⟨#[98, 97, 99, 107]⟩ : ByteArray), 1, 0, 0⟩ : S39), (⟨(⟨#[99, 117, 114, 115, 111, 114]⟩ : ByteArray), 0, 0, 0⟩ : S39), (⟨(⟨#[116, 111]⟩ : ByteArray), 0, 1, 1⟩ : S39), (⟨(⟨#[116, 101, 115, 116]⟩ : ByteArray), 0, 1, 1⟩ : S39), (⟨(⟨#[99, 111, 117, 110, 116]⟩ : ByteArray), 0, 0, 0⟩ : S39), (⟨(⟨#[102, 105, 108, 101, 115]⟩ : ByteArray), 0, 0, 0⟩ : S39), (⟨(⟨#[118, 101, 114, 105, 102, 121]⟩ : ByteArray), 0, 0, 0⟩ : S39), (⟨(⟨#[102, 105, 101, 108, 100, 115]⟩ : ByteArray), 0, 0, 0⟩ : S39), (⟨(⟨#[118, 97, 108, 117, 101, 115]⟩ : ByteArray), 0, 1, 1⟩ : S39), (⟨(⟨#[116, 111, 112]⟩ : ByteArray), 1, 1, 1⟩ : S39), (⟨(⟨#[115, 104, 111, 114, 116]⟩ : ByteArray), 0, 0, 0⟩ : S39), (⟨(⟨#[106, 115, 111, 110]⟩ : ByteArray), 0, 0, 0⟩ : S39), (⟨(⟨#[101, 120, 112, 111, 114, 116]⟩ : ByteArray), 0, 0, 0⟩ : S39)] : List (S39)))) = some r := h
  clear h
  obtain ⟨y148, hy148⟩ : ∃ y_ : List (S39), y_ = (([(⟨(⟨#[111, 112, 101, 110]⟩ : ByteArray), 1, 0, 0⟩ : S39), (⟨(⟨#[97, 112, 112, 101, 110, 100]⟩ : ByteArray), 2, 1, 64⟩ : S39), (⟨(⟨#[115, 121, 110, 99]⟩ : ByteArray), 0, 0, 0⟩ : S39), (⟨(⟨#[114, 111, 116, 97, 116, 101]⟩ : ByteArray), 0, 0, 0⟩ : S39), (⟨(⟨#[118, 97, 99, 117, 117, 109]⟩ : ByteArray), 1, 0, 0⟩ : S39), (⟨(⟨#[99, 108, 111, 115, 101]⟩ : ByteArray), 0, 0, 0⟩ : S39), (⟨(⟨#[97, 114, 109]⟩ : ByteArray), 1, 0, 0⟩ : S39), (⟨(⟨#[99, 114, 97, 115, 104]⟩ : ByteArray), 0, 1, 1⟩ : S39), (⟨(⟨#[109, 97, 116, 99, 104]⟩ : ByteArray), 0, 1, 1⟩ : S39), (⟨(⟨#[111, 114]⟩ : ByteArray), 0, 0, 0⟩ : S39), (⟨(⟨#[97, 110, 100]⟩ : ByteArray), 0, 0, 0⟩ : S39), (⟨(⟨#[102, 108, 117, 115, 104]⟩ : ByteArray), 0, 0, 0⟩ : S39), (⟨(⟨#[104, 101, 97, 100]⟩ : ByteArray), 0, 0, 0⟩ : S39), (⟨(⟨#[116, 97, 105, 108]⟩ : ByteArray), 0, 0, 0⟩ : S39), (⟨(⟨#[115, 101, 101, 107]⟩ : ByteArray), 1, 0, 0⟩ : S39), (⟨(⟨#[114, 101, 97, 108]⟩ : ByteArray), 1, 0, 0⟩ : S39), (⟨(⟨#[109, 111, 110, 111]⟩ : ByteArray), 2, 0, 0⟩ : S39), (⟨(⟨#[110, 101, 120, 116]⟩ : ByteArray), 0, 0, 0⟩ : S39), (⟨(⟨#[112, 114, 101, 118, 105, 111, 117, 115]⟩ : ByteArray), 0, 0, 0⟩ : S39), (⟨(⟨#[115, 107, 105, 112]⟩ : ByteArray), 1, 0, 0⟩ : S39), (⟨(⟨#[98, 97, 99, 107]⟩ : ByteArray), 1, 0, 0⟩ : S39), (⟨(⟨#[99, 117, 114, 115, 111, 114]⟩ : ByteArray), 0, 0, 0⟩ : S39), (⟨(⟨#[116, 111]⟩ : ByteArray), 0, 1, 1⟩ : S39), (⟨(⟨#[116, 101, 115, 116]⟩ : ByteArray), 0, 1, 1⟩ : S39), (⟨(⟨#[99, 111, 117, 110, 116]⟩ : ByteArray), 0, 0, 0⟩ : S39), (⟨(⟨#[102, 105, 108, 101, 115]⟩ : ByteArray), 0, 0, 0⟩ : S39), (⟨(⟨#[118, 101, 114, 105, 102, 121]⟩ : ByteArray), 0, 0, 0⟩ : S39), (⟨(⟨#[102, 105, 101, 108, 100, 115]⟩ : ByteArray), 0, 0, 0⟩ : S39), (⟨(⟨#[118, 97, 108, 117, 101, 115]⟩ : ByteArray), 0, 1, 1⟩ : S39), (⟨(⟨#[116, 111, 112]⟩ : ByteArray), 1, 1, 1⟩ : S39), (⟨(⟨#[115, 104, 111, 114, 116]⟩ : ByteArray), 0, 0, 0⟩ : S39), (⟨(⟨#[106, 115, 111, 110]⟩ : ByteArray), 0, 0, 0⟩ : S39), (⟨(⟨#[101, 120, 112, 111, 114, 116]⟩ : ByteArray), 0, 0, 0⟩ : S39)] : List (S39))) := ⟨_, rfl⟩
  replace H : (some y148) = some r := by first | (rw [hy148]; with_reducible exact H) | (have H2_ := (Option.bind_some _ _).symm.trans H; rw [hy148]; with_reducible exact H2_) | (have H2_ := (Option.bind_some _ _).symm.trans H; with_reducible exact H2_) | with_reducible exact H | (rw [hy148]; exact H) | exact H
  have Ny148 := Aside0.mk hy148
  clear hy148
  obtain rfl := Option.some.inj H
  go_enter Tryd.func10, Tryd.ntmps10
  go_wp2_with (first | ((with_reducible refine gate_dst (N := 34) rfl ?_); refine Kd.R_lit k39 _ 39 ?hg (N := 34) ?hd (xs := ([(⟨(⟨#[111, 112, 101, 110]⟩ : ByteArray), 1, 0, 0⟩ : S39), (⟨(⟨#[97, 112, 112, 101, 110, 100]⟩ : ByteArray), 2, 1, 64⟩ : S39), (⟨(⟨#[115, 121, 110, 99]⟩ : ByteArray), 0, 0, 0⟩ : S39), (⟨(⟨#[114, 111, 116, 97, 116, 101]⟩ : ByteArray), 0, 0, 0⟩ : S39), (⟨(⟨#[118, 97, 99, 117, 117, 109]⟩ : ByteArray), 1, 0, 0⟩ : S39), (⟨(⟨#[99, 108, 111, 115, 101]⟩ : ByteArray), 0, 0, 0⟩ : S39), (⟨(⟨#[97, 114, 109]⟩ : ByteArray), 1, 0, 0⟩ : S39), (⟨(⟨#[99, 114, 97, 115, 104]⟩ : ByteArray), 0, 1, 1⟩ : S39), (⟨(⟨#[109, 97, 116, 99, 104]⟩ : ByteArray), 0, 1, 1⟩ : S39), (⟨(⟨#[111, 114]⟩ : ByteArray), 0, 0, 0⟩ : S39), (⟨(⟨#[97, 110, 100]⟩ : ByteArray), 0, 0, 0⟩ : S39), (⟨(⟨#[102, 108, 117, 115, 104]⟩ : ByteArray), 0, 0, 0⟩ : S39), (⟨(⟨#[104, 101, 97, 100]⟩ : ByteArray), 0, 0, 0⟩ : S39), (⟨(⟨#[116, 97, 105, 108]⟩ : ByteArray), 0, 0, 0⟩ : S39), (⟨(⟨#[115, 101, 101, 107]⟩ : ByteArray), 1, 0, 0⟩ : S39), (⟨(⟨#[114, 101, 97, 108]⟩ : ByteArray), 1, 0, 0⟩ : S39), (⟨(⟨#[109, 111, 110, 111]⟩ : ByteArray), 2, 0, 0⟩ : S39), (⟨(⟨#[110, 101, 120, 116]⟩ : ByteArray), 0, 0, 0⟩ : S39), (⟨(⟨#[112, 114, 101, 118, 105, 111, 117, 115]⟩ : ByteArray), 0, 0, 0⟩ : S39), (⟨(⟨#[115, 107, 105, 112]⟩ : ByteArray), 1, 0, 0⟩ : S39), (⟨(⟨#[98, 97, 99, 107]⟩ : ByteArray), 1, 0, 0⟩ : S39), (⟨(⟨#[99, 117, 114, 115, 111, 114]⟩ : ByteArray), 0, 0, 0⟩ : S39), (⟨(⟨#[116, 111]⟩ : ByteArray), 0, 1, 1⟩ : S39), (⟨(⟨#[116, 101, 115, 116]⟩ : ByteArray), 0, 1, 1⟩ : S39), (⟨(⟨#[99, 111, 117, 110, 116]⟩ : ByteArray), 0, 0, 0⟩ : S39), (⟨(⟨#[102, 105, 108, 101, 115]⟩ : ByteArray), 0, 0, 0⟩ : S39), (⟨(⟨#[118, 101, 114, 105, 102, 121]⟩ : ByteArray), 0, 0, 0⟩ : S39), (⟨(⟨#[102, 105, 101, 108, 100, 115]⟩ : ByteArray), 0, 0, 0⟩ : S39), (⟨(⟨#[118, 97, 108, 117, 101, 115]⟩ : ByteArray), 0, 1, 1⟩ : S39), (⟨(⟨#[116, 111, 112]⟩ : ByteArray), 1, 1, 1⟩ : S39), (⟨(⟨#[115, 104, 111, 114, 116]⟩ : ByteArray), 0, 0, 0⟩ : S39), (⟨(⟨#[106, 115, 111, 110]⟩ : ByteArray), 0, 0, 0⟩ : S39), (⟨(⟨#[101, 120, 112, 111, 114, 116]⟩ : ByteArray), 0, 0, 0⟩ : S39)] : List (S39))) (inner := [.string (⟨#[111, 112, 101, 110]⟩ : ByteArray), .int .i64 1, .int .i64 0, .int .i64 0, .string (⟨#[97, 112, 112, 101, 110, 100]⟩ : ByteArray), .int .i64 2, .int .i64 1, .int .i64 64, .string (⟨#[115, 121, 110, 99]⟩ : ByteArray), .int .i64 0, .int .i64 0, .int .i64 0, .string (⟨#[114, 111, 116, 97, 116, 101]⟩ : ByteArray), .int .i64 0, .int .i64 0, .int .i64 0, .string (⟨#[118, 97, 99, 117, 117, 109]⟩ : ByteArray), .int .i64 1, .int .i64 0, .int .i64 0, .string (⟨#[99, 108, 111, 115, 101]⟩ : ByteArray), .int .i64 0, .int .i64 0, .int .i64 0, .string (⟨#[97, 114, 109]⟩ : ByteArray), .int .i64 1, .int .i64 0, .int .i64 0, .string (⟨#[99, 114, 97, 115, 104]⟩ : ByteArray), .int .i64 0, .int .i64 1, .int .i64 1, .string (⟨#[109, 97, 116, 99, 104]⟩ : ByteArray), .int .i64 0, .int .i64 1, .int .i64 1, .string (⟨#[111, 114]⟩ : ByteArray), .int .i64 0, .int .i64 0, .int .i64 0, .string (⟨#[97, 110, 100]⟩ : ByteArray), .int .i64 0, .int .i64 0, .int .i64 0, .string (⟨#[102, 108, 117, 115, 104]⟩ : ByteArray), .int .i64 0, .int .i64 0, .int .i64 0, .string (⟨#[104, 101, 97, 100]⟩ : ByteArray), .int .i64 0, .int .i64 0, .int .i64 0, .string (⟨#[116, 97, 105, 108]⟩ : ByteArray), .int .i64 0, .int .i64 0, .int .i64 0, .string (⟨#[115, 101, 101, 107]⟩ : ByteArray), .int .i64 1, .int .i64 0, .int .i64 0, .string (⟨#[114, 101, 97, 108]⟩ : ByteArray), .int .i64 1, .int .i64 0, .int .i64 0, .string (⟨#[109, 111, 110, 111]⟩ : ByteArray), .int .i64 2, .int .i64 0, .int .i64 0, .string (⟨#[110, 101, 120, 116]⟩ : ByteArray), .int .i64 0, .int .i64 0, .int .i64 0, .string (⟨#[112, 114, 101, 118, 105, 111, 117, 115]⟩ : ByteArray), .int .i64 0, .int .i64 0, .int .i64 0, .string (⟨#[115, 107, 105, 112]⟩ : ByteArray), .int .i64 1, .int .i64 0, .int .i64 0, .string (⟨#[98, 97, 99, 107]⟩ : ByteArray), .int .i64 1, .int .i64 0, .int .i64 0, .string (⟨#[99, 117, 114, 115, 111, 114]⟩ : ByteArray), .int .i64 0, .int .i64 0, .int .i64 0, .string (⟨#[116, 111]⟩ : ByteArray), .int .i64 0, .int .i64 1, .int .i64 1, .string (⟨#[116, 101, 115, 116]⟩ : ByteArray), .int .i64 0, .int .i64 1, .int .i64 1, .string (⟨#[99, 111, 117, 110, 116]⟩ : ByteArray), .int .i64 0, .int .i64 0, .int .i64 0, .string (⟨#[102, 105, 108, 101, 115]⟩ : ByteArray), .int .i64 0, .int .i64 0, .int .i64 0, .string (⟨#[118, 101, 114, 105, 102, 121]⟩ : ByteArray), .int .i64 0, .int .i64 0, .int .i64 0, .string (⟨#[102, 105, 101, 108, 100, 115]⟩ : ByteArray), .int .i64 0, .int .i64 0, .int .i64 0, .string (⟨#[118, 97, 108, 117, 101, 115]⟩ : ByteArray), .int .i64 0, .int .i64 1, .int .i64 1, .string (⟨#[116, 111, 112]⟩ : ByteArray), .int .i64 1, .int .i64 1, .int .i64 1, .string (⟨#[115, 104, 111, 114, 116]⟩ : ByteArray), .int .i64 0, .int .i64 0, .int .i64 0, .string (⟨#[106, 115, 111, 110]⟩ : ByteArray), .int .i64 0, .int .i64 0, .int .i64 0, .string (⟨#[101, 120, 112, 111, 114, 116]⟩ : ByteArray), .int .i64 0, .int .i64 0, .int .i64 0]) (ok := fun _ => True) (okp := fun _ => True) ?hr ?hp (fun _ hk => hk) trivial (Below.refl _ _) (Nat.le_refl _) (by simp) ?_; (case hd => rfl); (case hg => rfl); (case hr => first | (go_simp; done) | (go_simp; rfl)); (case hp => exact (Reps.c4 (show Kd.M k39 _ _ _ (⟨(⟨#[111, 112, 101, 110]⟩ : ByteArray), 1, 0, 0⟩ : S39) [.string (⟨#[111, 112, 101, 110]⟩ : ByteArray), .int .i64 1, .int .i64 0, .int .i64 0] from (k39_mkM _ _ _ (⟨(⟨#[111, 112, 101, 110]⟩ : ByteArray), 1, 0, 0⟩ : S39) )) (Reps.c4 (show Kd.M k39 _ _ _ (⟨(⟨#[97, 112, 112, 101, 110, 100]⟩ : ByteArray), 2, 1, 64⟩ : S39) [.string (⟨#[97, 112, 112, 101, 110, 100]⟩ : ByteArray), .int .i64 2, .int .i64 1, .int .i64 64] from (k39_mkM _ _ _ (⟨(⟨#[97, 112, 112, 101, 110, 100]⟩ : ByteArray), 2, 1, 64⟩ : S39) )) (Reps.c4 (show Kd.M k39 _ _ _ (⟨(⟨#[115, 121, 110, 99]⟩ : ByteArray), 0, 0, 0⟩ : S39) [.string (⟨#[115, 121, 110, 99]⟩ : ByteArray), .int .i64 0, .int .i64 0, .int .i64 0] from (k39_mkM _ _ _ (⟨(⟨#[115, 121, 110, 99]⟩ : ByteArray), 0, 0, 0⟩ : S39) )) (Reps.c4 (show Kd.M k39 _ _ _ (⟨(⟨#[114, 111, 116, 97, 116, 101]⟩ : ByteArray), 0, 0, 0⟩ : S39) [.string (⟨#[114, 111, 116, 97, 116, 101]⟩ : ByteArray), .int .i64 0, .int .i64 0, .int .i64 0] from (k39_mkM _ _ _ (⟨(⟨#[114, 111, 116, 97, 116, 101]⟩ : ByteArray), 0, 0, 0⟩ : S39) )) (Reps.c4 (show Kd.M k39 _ _ _ (⟨(⟨#[118, 97, 99, 117, 117, 109]⟩ : ByteArray), 1, 0, 0⟩ : S39) [.string (⟨#[118, 97, 99, 117, 117, 109]⟩ : ByteArray), .int .i64 1, .int .i64 0, .int .i64 0] from (k39_mkM _ _ _ (⟨(⟨#[118, 97, 99, 117, 117, 109]⟩ : ByteArray), 1, 0, 0⟩ : S39) )) (Reps.c4 (show Kd.M k39 _ _ _ (⟨(⟨#[99, 108, 111, 115, 101]⟩ : ByteArray), 0, 0, 0⟩ : S39) [.string (⟨#[99, 108, 111, 115, 101]⟩ : ByteArray), .int .i64 0, .int .i64 0, .int .i64 0] from (k39_mkM _ _ _ (⟨(⟨#[99, 108, 111, 115, 101]⟩ : ByteArray), 0, 0, 0⟩ : S39) )) (Reps.c4 (show Kd.M k39 _ _ _ (⟨(⟨#[97, 114, 109]⟩ : ByteArray), 1, 0, 0⟩ : S39) [.string (⟨#[97, 114, 109]⟩ : ByteArray), .int .i64 1, .int .i64 0, .int .i64 0] from (k39_mkM _ _ _ (⟨(⟨#[97, 114, 109]⟩ : ByteArray), 1, 0, 0⟩ : S39) )) (Reps.c4 (show Kd.M k39 _ _ _ (⟨(⟨#[99, 114, 97, 115, 104]⟩ : ByteArray), 0, 1, 1⟩ : S39) [.string (⟨#[99, 114, 97, 115, 104]⟩ : ByteArray), .int .i64 0, .int .i64 1, .int .i64 1] from (k39_mkM _ _ _ (⟨(⟨#[99, 114, 97, 115, 104]⟩ : ByteArray), 0, 1, 1⟩ : S39) )) (Reps.c4 (show Kd.M k39 _ _ _ (⟨(⟨#[109, 97, 116, 99, 104]⟩ : ByteArray), 0, 1, 1⟩ : S39) [.string (⟨#[109, 97, 116, 99, 104]⟩ : ByteArray), .int .i64 0, .int .i64 1, .int .i64 1] from (k39_mkM _ _ _ (⟨(⟨#[109, 97, 116, 99, 104]⟩ : ByteArray), 0, 1, 1⟩ : S39) )) (Reps.c4 (show Kd.M k39 _ _ _ (⟨(⟨#[111, 114]⟩ : ByteArray), 0, 0, 0⟩ : S39) [.string (⟨#[111, 114]⟩ : ByteArray), .int .i64 0, .int .i64 0, .int .i64 0] from (k39_mkM _ _ _ (⟨(⟨#[111, 114]⟩ : ByteArray), 0, 0, 0⟩ : S39) )) (Reps.c4 (show Kd.M k39 _ _ _ (⟨(⟨#[97, 110, 100]⟩ : ByteArray), 0, 0, 0⟩ : S39) [.string (⟨#[97, 110, 100]⟩ : ByteArray), .int .i64 0, .int .i64 0, .int .i64 0] from (k39_mkM _ _ _ (⟨(⟨#[97, 110, 100]⟩ : ByteArray), 0, 0, 0⟩ : S39) )) (Reps.c4 (show Kd.M k39 _ _ _ (⟨(⟨#[102, 108, 117, 115, 104]⟩ : ByteArray), 0, 0, 0⟩ : S39) [.string (⟨#[102, 108, 117, 115, 104]⟩ : ByteArray), .int .i64 0, .int .i64 0, .int .i64 0] from (k39_mkM _ _ _ (⟨(⟨#[102, 108, 117, 115, 104]⟩ : ByteArray), 0, 0, 0⟩ : S39) )) (Reps.c4 (show Kd.M k39 _ _ _ (⟨(⟨#[104, 101, 97, 100]⟩ : ByteArray), 0, 0, 0⟩ : S39) [.string (⟨#[104, 101, 97, 100]⟩ : ByteArray), .int .i64 0, .int .i64 0, .int .i64 0] from (k39_mkM _ _ _ (⟨(⟨#[104, 101, 97, 100]⟩ : ByteArray), 0, 0, 0⟩ : S39) )) (Reps.c4 (show Kd.M k39 _ _ _ (⟨(⟨#[116, 97, 105, 108]⟩ : ByteArray), 0, 0, 0⟩ : S39) [.string (⟨#[116, 97, 105, 108]⟩ : ByteArray), .int .i64 0, .int .i64 0, .int .i64 0] from (k39_mkM _ _ _ (⟨(⟨#[116, 97, 105, 108]⟩ : ByteArray), 0, 0, 0⟩ : S39) )) (Reps.c4 (show Kd.M k39 _ _ _ (⟨(⟨#[115, 101, 101, 107]⟩ : ByteArray), 1, 0, 0⟩ : S39) [.string (⟨#[115, 101, 101, 107]⟩ : ByteArray), .int .i64 1, .int .i64 0, .int .i64 0] from (k39_mkM _ _ _ (⟨(⟨#[115, 101, 101, 107]⟩ : ByteArray), 1, 0, 0⟩ : S39) )) (Reps.c4 (show Kd.M k39 _ _ _ (⟨(⟨#[114, 101, 97, 108]⟩ : ByteArray), 1, 0, 0⟩ : S39) [.string (⟨#[114, 101, 97, 108]⟩ : ByteArray), .int .i64 1, .int .i64 0, .int .i64 0] from (k39_mkM _ _ _ (⟨(⟨#[114, 101, 97, 108]⟩ : ByteArray), 1, 0, 0⟩ : S39) )) (Reps.c4 (show Kd.M k39 _ _ _ (⟨(⟨#[109, 111, 110, 111]⟩ : ByteArray), 2, 0, 0⟩ : S39) [.string (⟨#[109, 111, 110, 111]⟩ : ByteArray), .int .i64 2, .int .i64 0, .int .i64 0] from (k39_mkM _ _ _ (⟨(⟨#[109, 111, 110, 111]⟩ : ByteArray), 2, 0, 0⟩ : S39) )) (Reps.c4 (show Kd.M k39 _ _ _ (⟨(⟨#[110, 101, 120, 116]⟩ : ByteArray), 0, 0, 0⟩ : S39) [.string (⟨#[110, 101, 120, 116]⟩ : ByteArray), .int .i64 0, .int .i64 0, .int .i64 0] from (k39_mkM _ _ _ (⟨(⟨#[110, 101, 120, 116]⟩ : ByteArray), 0, 0, 0⟩ : S39) )) (Reps.c4 (show Kd.M k39 _ _ _ (⟨(⟨#[112, 114, 101, 118, 105, 111, 117, 115]⟩ : ByteArray), 0, 0, 0⟩ : S39) [.string (⟨#[112, 114, 101, 118, 105, 111, 117, 115]⟩ : ByteArray), .int .i64 0, .int .i64 0, .int .i64 0] from (k39_mkM _ _ _ (⟨(⟨#[112, 114, 101, 118, 105, 111, 117, 115]⟩ : ByteArray), 0, 0, 0⟩ : S39) )) (Reps.c4 (show Kd.M k39 _ _ _ (⟨(⟨#[115, 107, 105, 112]⟩ : ByteArray), 1, 0, 0⟩ : S39) [.string (⟨#[115, 107, 105, 112]⟩ : ByteArray), .int .i64 1, .int .i64 0, .int .i64 0] from (k39_mkM _ _ _ (⟨(⟨#[115, 107, 105, 112]⟩ : ByteArray), 1, 0, 0⟩ : S39) )) (Reps.c4 (show Kd.M k39 _ _ _ (⟨(⟨#[98, 97, 99, 107]⟩ : ByteArray), 1, 0, 0⟩ : S39) [.string (⟨#[98, 97, 99, 107]⟩ : ByteArray), .int .i64 1, .int .i64 0, .int .i64 0] from (k39_mkM _ _ _ (⟨(⟨#[98, 97, 99, 107]⟩ : ByteArray), 1, 0, 0⟩ : S39) )) (Reps.c4 (show Kd.M k39 _ _ _ (⟨(⟨#[99, 117, 114, 115, 111, 114]⟩ : ByteArray), 0, 0, 0⟩ : S39) [.string (⟨#[99, 117, 114, 115, 111, 114]⟩ : ByteArray), .int .i64 0, .int .i64 0, .int .i64 0] from (k39_mkM _ _ _ (⟨(⟨#[99, 117, 114, 115, 111, 114]⟩ : ByteArray), 0, 0, 0⟩ : S39) )) (Reps.c4 (show Kd.M k39 _ _ _ (⟨(⟨#[116, 111]⟩ : ByteArray), 0, 1, 1⟩ : S39) [.string (⟨#[116, 111]⟩ : ByteArray), .int .i64 0, .int .i64 1, .int .i64 1] from (k39_mkM _ _ _ (⟨(⟨#[116, 111]⟩ : ByteArray), 0, 1, 1⟩ : S39) )) (Reps.c4 (show Kd.M k39 _ _ _ (⟨(⟨#[116, 101, 115, 116]⟩ : ByteArray), 0, 1, 1⟩ : S39) [.string (⟨#[116, 101, 115, 116]⟩ : ByteArray), .int .i64 0, .int .i64 1, .int .i64 1] from (k39_mkM _ _ _ (⟨(⟨#[116, 101, 115, 116]⟩ : ByteArray), 0, 1, 1⟩ : S39) )) (Reps.c4 (show Kd.M k39 _ _ _ (⟨(⟨#[99, 111, 117, 110, 116]⟩ : ByteArray), 0, 0, 0⟩ : S39) [.string (⟨#[99, 111, 117, 110, 116]⟩ : ByteArray), .int .i64 0, .int .i64 0, .int .i64 0] from (k39_mkM _ _ _ (⟨(⟨#[99, 111, 117, 110, 116]⟩ : ByteArray), 0, 0, 0⟩ : S39) )) (Reps.c4 (show Kd.M k39 _ _ _ (⟨(⟨#[102, 105, 108, 101, 115]⟩ : ByteArray), 0, 0, 0⟩ : S39) [.string (⟨#[102, 105, 108, 101, 115]⟩ : ByteArray), .int .i64 0, .int .i64 0, .int .i64 0] from (k39_mkM _ _ _ (⟨(⟨#[102, 105, 108, 101, 115]⟩ : ByteArray), 0, 0, 0⟩ : S39) )) (Reps.c4 (show Kd.M k39 _ _ _ (⟨(⟨#[118, 101, 114, 105, 102, 121]⟩ : ByteArray), 0, 0, 0⟩ : S39) [.string (⟨#[118, 101, 114, 105, 102, 121]⟩ : ByteArray), .int .i64 0, .int .i64 0, .int .i64 0] from (k39_mkM _ _ _ (⟨(⟨#[118, 101, 114, 105, 102, 121]⟩ : ByteArray), 0, 0, 0⟩ : S39) )) (Reps.c4 (show Kd.M k39 _ _ _ (⟨(⟨#[102, 105, 101, 108, 100, 115]⟩ : ByteArray), 0, 0, 0⟩ : S39) [.string (⟨#[102, 105, 101, 108, 100, 115]⟩ : ByteArray), .int .i64 0, .int .i64 0, .int .i64 0] from (k39_mkM _ _ _ (⟨(⟨#[102, 105, 101, 108, 100, 115]⟩ : ByteArray), 0, 0, 0⟩ : S39) )) (Reps.c4 (show Kd.M k39 _ _ _ (⟨(⟨#[118, 97, 108, 117, 101, 115]⟩ : ByteArray), 0, 1, 1⟩ : S39) [.string (⟨#[118, 97, 108, 117, 101, 115]⟩ : ByteArray), .int .i64 0, .int .i64 1, .int .i64 1] from (k39_mkM _ _ _ (⟨(⟨#[118, 97, 108, 117, 101, 115]⟩ : ByteArray), 0, 1, 1⟩ : S39) )) (Reps.c4 (show Kd.M k39 _ _ _ (⟨(⟨#[116, 111, 112]⟩ : ByteArray), 1, 1, 1⟩ : S39) [.string (⟨#[116, 111, 112]⟩ : ByteArray), .int .i64 1, .int .i64 1, .int .i64 1] from (k39_mkM _ _ _ (⟨(⟨#[116, 111, 112]⟩ : ByteArray), 1, 1, 1⟩ : S39) )) (Reps.c4 (show Kd.M k39 _ _ _ (⟨(⟨#[115, 104, 111, 114, 116]⟩ : ByteArray), 0, 0, 0⟩ : S39) [.string (⟨#[115, 104, 111, 114, 116]⟩ : ByteArray), .int .i64 0, .int .i64 0, .int .i64 0] from (k39_mkM _ _ _ (⟨(⟨#[115, 104, 111, 114, 116]⟩ : ByteArray), 0, 0, 0⟩ : S39) )) (Reps.c4 (show Kd.M k39 _ _ _ (⟨(⟨#[106, 115, 111, 110]⟩ : ByteArray), 0, 0, 0⟩ : S39) [.string (⟨#[106, 115, 111, 110]⟩ : ByteArray), .int .i64 0, .int .i64 0, .int .i64 0] from (k39_mkM _ _ _ (⟨(⟨#[106, 115, 111, 110]⟩ : ByteArray), 0, 0, 0⟩ : S39) )) (Reps.c4 (show Kd.M k39 _ _ _ (⟨(⟨#[101, 120, 112, 111, 114, 116]⟩ : ByteArray), 0, 0, 0⟩ : S39) [.string (⟨#[101, 120, 112, 111, 114, 116]⟩ : ByteArray), .int .i64 0, .int .i64 0, .int .i64 0] from (k39_mkM _ _ _ (⟨(⟨#[101, 120, 112, 111, 114, 116]⟩ : ByteArray), 0, 0, 0⟩ : S39) )) (Reps.none _ _))))))))))))))))))))))))))))))))))); intro v149 w1 ho2 hb hg_ hnew_; clear hg_ hnew_; (first | rw [← Ny148.out] at ho2 | (simp only [Int.reduceToNat] at ho2; rw [← Ny148.out] at ho2)); have n0_ := Aside0.mk (Kd.R_lower ho2 (below_size (by repeat (first | (with_reducible first | exact HB.out | apply below_alloc | apply pw_below_drewN | apply below_drew1) | exact HB.out)))); have n1_ := Aside0.mk (below_step (by repeat (first | (with_reducible first | exact HB.out | apply below_alloc | apply pw_below_drewN | apply below_drew1) | exact HB.out)) hb); clear HB; have HO150 := n0_; have HB := n1_; clear n0_ n1_; clear hb ho2))
  go_ret
  exact ⟨_, by first | rfl | (simp [errW_none, errW_some] <;> rfl) | (simp [*, errW_none, errW_some] <;> rfl), by (with_reducible repeat (first | apply Kd.R_alloc | apply Kd.R_drewN | apply Kd.R_drew)); exact HO150.out, by repeat (first | (with_reducible first | exact HB.out | apply below_alloc | apply pw_below_drewN | apply below_drew1) | exact HB.out)⟩

end Go.Proofs.YtfhnmcjajpnhpaaDoor.POpWrites
