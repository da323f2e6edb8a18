-- PRINTED BY print.sh 35421559b90ae4d0a3588c463048766b98c2df88dd9212a6774a882060cdf62d: not written by this session
import Derived.Test.YtpmaihlmccebhaaPPolicyLessx0
import Derived.Test.YtpmaihlmccebhaaPPolicyLessx1
import Derived.Test.YtpmaihlmccebhaaPPolicyLessx2
namespace Go.Proofs.Ytpmaihlmccebhaa.PPolicyLess
open Go.RowKit Go.Proofs.YtpmaihlmccebhaaW.PrintWords Go.Proofs.YtpmaihlmccebhaaW.PrintLast Go.Proofs.YtpmaihlmccebhaaW.PrintMore
attribute [local go_sem] max2_int min2_int max_two min_two max_three min_three max_four min_four   -- for this text's walks alone
set_option linter.unusedVariables false
set_option linter.unusedSimpArgs false

/-! ### logbooklaw23_PolicyLess: function 4 -/
mutual
def logbooklaw23_PolicyLess.j0 : Nat → Int → Int → List (S36) → Int → Int → List (S34) → Bool → Int → Int → Int → Option (Bool)
  | 0, _, _, _, _, _, _, _, _, _, _ => none
  | k + 1, x1, x2, x3, x4, x5, x13, x53, x126000, x126001, x126002 => if x53 = true then ((logbooklaw23_awake.f k).bind fun t130 => (some t130)) else ((logbooklaw23_keep.f x126000 x126001 x126002).bind fun bt131 => ((policy_Keep_Drop.f k bt131.1 bt131.2.1 bt131.2.2 x1 0 x2 x13).bind fun t134 => ((logbooklaw23_keep.f (wrap64 (x126000 - (wrap64 (x4)))) (wrap64 (x126001 - (wrap64 (x4)))) (IntKind.u64.wrap (x126002 - (IntKind.u64.wrap (x4))))).bind fun bt136 => ((policy_Keep_Drop.f k bt136.1 bt136.2.1 bt136.2.2 x1 0 (IntKind.u64.wrap (x2 + (IntKind.u64.wrap (x5)))) x13).bind fun t139 => (logbooklaw23_PolicyLess.l0 k x3 t134 t139 x1 (mn (mx t134 0) (x3.length : Int)) x126000 x126001 x126002)))))
def logbooklaw23_PolicyLess.l0 : Nat → List (S36) → Int → Int → Int → Int → Int → Int → Int → Option (Bool)
  | 0, _, _, _, _, _, _, _, _ => none
  | k + 1, x3, x15, x17, x18, x19, x126000, x126001, x126002 => if x19 < (x3.length : Int) then (if 0 ≤ x19 then (logbooklaw23_PolicyLess.l0 k x3 x15 x17 (wrap64 (x18 + ((rd_T36 x3 x19).f0))) (wrap64 (x19 + 1)) x126000 x126001 x126002) else (none)) else (if x15 ≤ x17 then (if x15 ≥ 0 then (if x15 ≤ (x3.length : Int) then (if x18 ≤ x126000 then ((logbooklaw23_awake.f k).bind fun t141 => (some t141)) else (if x15 = (x3.length : Int) then ((logbooklaw23_awake.f k).bind fun t142 => (some t142)) else (some false))) else (some false)) else (some false)) else (some false))
end
def logbooklaw23_PolicyLess.f (k : Nat) (a0_0 : Int) (a0_1 : Int) (a0_2 : Int) (a1 : Int) (a2 : Int) (l3 : List (S36)) (a4 : Int) (a5 : Int) : Option (Bool) := (logbooklaw23_infos.f k l3).bind fun bt126 => (if bt126.2 = true then (if a1 < 0 then (logbooklaw23_PolicyLess.j0 k a1 a2 l3 a4 a5 bt126.1 true a0_0 a0_1 a0_2) else (if a1 > 1099511627776 then (logbooklaw23_PolicyLess.j0 k a1 a2 l3 a4 a5 bt126.1 true a0_0 a0_1 a0_2) else (if a2 > 4611686018427387904 then (logbooklaw23_PolicyLess.j0 k a1 a2 l3 a4 a5 bt126.1 true a0_0 a0_1 a0_2) else (if a0_0 < 300 then (logbooklaw23_PolicyLess.j0 k a1 a2 l3 a4 a5 bt126.1 true a0_0 a0_1 a0_2) else (if a0_1 < 300 then (logbooklaw23_PolicyLess.j0 k a1 a2 l3 a4 a5 bt126.1 true a0_0 a0_1 a0_2) else (logbooklaw23_PolicyLess.j0 k a1 a2 l3 a4 a5 bt126.1 (decide (a0_2 < 300)) a0_0 a0_1 a0_2)))))) else (logbooklaw23_PolicyLess.j0 k a1 a2 l3 a4 a5 bt126.1 true a0_0 a0_1 a0_2))
theorem logbooklaw23_PolicyLess.mono_l : ∀ k, (∀ y0 y1 y2 y3 y4 y5 y6 y7 y8 y9, LeO (logbooklaw23_PolicyLess.j0 k y0 y1 y2 y3 y4 y5 y6 y7 y8 y9) (logbooklaw23_PolicyLess.j0 (k + 1) y0 y1 y2 y3 y4 y5 y6 y7 y8 y9)) ∧ (∀ y0 y1 y2 y3 y4 y5 y6 y7, LeO (logbooklaw23_PolicyLess.l0 k y0 y1 y2 y3 y4 y5 y6 y7) (logbooklaw23_PolicyLess.l0 (k + 1) y0 y1 y2 y3 y4 y5 y6 y7))
  | 0 => ⟨fun _ _ _ _ _ _ _ _ _ _ r h => by simp [logbooklaw23_PolicyLess.j0] at h, fun _ _ _ _ _ _ _ _ r h => by simp [logbooklaw23_PolicyLess.l0] at h⟩
  | k + 1 => by
    obtain ⟨ih0, ih1⟩ := logbooklaw23_PolicyLess.mono_l k
    refine ⟨?_, ?_⟩
    · intro y0 y1 y2 y3 y4 y5 y6 y7 y8 y9
      unfold logbooklaw23_PolicyLess.j0
      repeat' first
      | (with_reducible exact ih0 _ _ _ _ _ _ _ _ _ _)
      | (with_reducible exact ih1 _ _ _ _ _ _ _ _)
      | (with_reducible exact logbooklaw23_awake.mono _)
      | (with_reducible exact logbooklaw23_infos.mono _ _)
      | (with_reducible exact policy_Keep_Drop.mono _ _ _ _ _ _ _ _)
      | (with_reducible exact LeO.refl _)
      | (with_reducible exact LeO.none _)
      | (with_reducible refine LeO.ite ?_ ?_)
      | (with_reducible refine LeO.bind ?_ (fun _ => ?_))
      | exact ih0 _ _ _ _ _ _ _ _ _ _
      | exact ih1 _ _ _ _ _ _ _ _
      | exact logbooklaw23_awake.mono _
      | exact logbooklaw23_infos.mono _ _
      | exact policy_Keep_Drop.mono _ _ _ _ _ _ _ _
      | exact LeO.none _
      | refine LeO.ite ?_ ?_
      | refine LeO.bind ?_ (fun _ => ?_)
    · intro y0 y1 y2 y3 y4 y5 y6 y7
      unfold logbooklaw23_PolicyLess.l0
      repeat' first
      | (with_reducible exact ih0 _ _ _ _ _ _ _ _ _ _)
      | (with_reducible exact ih1 _ _ _ _ _ _ _ _)
      | (with_reducible exact logbooklaw23_awake.mono _)
      | (with_reducible exact logbooklaw23_infos.mono _ _)
      | (with_reducible exact policy_Keep_Drop.mono _ _ _ _ _ _ _ _)
      | (with_reducible exact LeO.refl _)
      | (with_reducible exact LeO.none _)
      | (with_reducible refine LeO.ite ?_ ?_)
      | (with_reducible refine LeO.bind ?_ (fun _ => ?_))
      | exact ih0 _ _ _ _ _ _ _ _ _ _
      | exact ih1 _ _ _ _ _ _ _ _
      | exact logbooklaw23_awake.mono _
      | exact logbooklaw23_infos.mono _ _
      | exact policy_Keep_Drop.mono _ _ _ _ _ _ _ _
      | exact LeO.none _
      | refine LeO.ite ?_ ?_
      | refine LeO.bind ?_ (fun _ => ?_)
theorem logbooklaw23_PolicyLess.mono : ∀ a0 a1 a2 a3 a4 a5 a6 a7 k, LeO (logbooklaw23_PolicyLess.f k a0 a1 a2 a3 a4 a5 a6 a7) (logbooklaw23_PolicyLess.f (k + 1) a0 a1 a2 a3 a4 a5 a6 a7) := by
  intro a0 a1 a2 a3 a4 a5 a6 a7 k
  obtain ⟨ih0, ih1⟩ := logbooklaw23_PolicyLess.mono_l k
  unfold logbooklaw23_PolicyLess.f
  repeat' first
      | (with_reducible exact ih0 _ _ _ _ _ _ _ _ _ _)
      | (with_reducible exact ih1 _ _ _ _ _ _ _ _)
      | (with_reducible exact logbooklaw23_awake.mono _)
      | (with_reducible exact logbooklaw23_infos.mono _ _)
      | (with_reducible exact policy_Keep_Drop.mono _ _ _ _ _ _ _ _)
      | (with_reducible exact LeO.refl _)
      | (with_reducible exact LeO.none _)
      | (with_reducible refine LeO.ite ?_ ?_)
      | (with_reducible refine LeO.bind ?_ (fun _ => ?_))
      | exact ih0 _ _ _ _ _ _ _ _ _ _
      | exact ih1 _ _ _ _ _ _ _ _
      | exact logbooklaw23_awake.mono _
      | exact logbooklaw23_infos.mono _ _
      | exact policy_Keep_Drop.mono _ _ _ _ _ _ _ _
      | exact LeO.none _
      | refine LeO.ite ?_ ?_
      | refine LeO.bind ?_ (fun _ => ?_)
set_option maxHeartbeats 8000000 in
set_option maxRecDepth 100000 in
theorem logbooklaw23_PolicyLess.calls (k : Nat) (a0_0 : Int) (a0_1 : Int) (a0_2 : Int) (a1 : Int) (a2 : Int) (A3 : Option Addr) (c3 : Nat) (l3 : List (S36)) (a4 : Int) (a5 : Int) (r : Bool) (w : World) (hr3 : Kd.C k36 w A3 l3.length l3) (hc3 : l3.length ≤ c3) (h : logbooklaw23_PolicyLess.f k a0_0 a0_1 a0_2 a1 a2 l3 a4 a5 = some r) :
    Calls Try.prog 4 #[.agg #[.int .i64 a0_0, .int .i64 a0_1, .int .u64 a0_2], .int .i64 a1, .int .u64 a2, .slice A3 l3.length c3, .int .u8 a4, .int .u16 a5] w fun e w' => e = .returned (.bool r) ∧ Below w.heap.size w w' := by
  have hu24 := Try.underlying24
  have hu34 := Try.underlying34
  have HR3 := Aside0.mk hr3
  have HC3 := Aside0.mk hc3
  clear hr3 hc3
  have HB := Aside0.mk (Below.refl w.heap.size w)
  have H : ((logbooklaw23_infos.f k l3).bind fun bt126 => (if bt126.2 = true then (if a1 < 0 then (logbooklaw23_PolicyLess.j0 k a1 a2 l3 a4 a5 bt126.1 true a0_0 a0_1 a0_2) else (if a1 > 1099511627776 then (logbooklaw23_PolicyLess.j0 k a1 a2 l3 a4 a5 bt126.1 true a0_0 a0_1 a0_2) else (if a2 > 4611686018427387904 then (logbooklaw23_PolicyLess.j0 k a1 a2 l3 a4 a5 bt126.1 true a0_0 a0_1 a0_2) else (if a0_0 < 300 then (logbooklaw23_PolicyLess.j0 k a1 a2 l3 a4 a5 bt126.1 true a0_0 a0_1 a0_2) else (if a0_1 < 300 then (logbooklaw23_PolicyLess.j0 k a1 a2 l3 a4 a5 bt126.1 true a0_0 a0_1 a0_2) else (logbooklaw23_PolicyLess.j0 k a1 a2 l3 a4 a5 bt126.1 (decide (a0_2 < 300)) a0_0 a0_1 a0_2)))))) else (logbooklaw23_PolicyLess.j0 k a1 a2 l3 a4 a5 bt126.1 true a0_0 a0_1 a0_2))) = some r := h
  clear h
  replace H := Option.bind_eq_some_iff.mp H
  obtain ⟨⟨t126, t127⟩, A70, H⟩ := H
  replace H : (if t127 = true then (if a1 < 0 then (logbooklaw23_PolicyLess.j0 k a1 a2 l3 a4 a5 t126 true a0_0 a0_1 a0_2) else (if a1 > 1099511627776 then (logbooklaw23_PolicyLess.j0 k a1 a2 l3 a4 a5 t126 true a0_0 a0_1 a0_2) else (if a2 > 4611686018427387904 then (logbooklaw23_PolicyLess.j0 k a1 a2 l3 a4 a5 t126 true a0_0 a0_1 a0_2) else (if a0_0 < 300 then (logbooklaw23_PolicyLess.j0 k a1 a2 l3 a4 a5 t126 true a0_0 a0_1 a0_2) else (if a0_1 < 300 then (logbooklaw23_PolicyLess.j0 k a1 a2 l3 a4 a5 t126 true a0_0 a0_1 a0_2) else (logbooklaw23_PolicyLess.j0 k a1 a2 l3 a4 a5 t126 (decide (a0_2 < 300)) a0_0 a0_1 a0_2)))))) else (logbooklaw23_PolicyLess.j0 k a1 a2 l3 a4 a5 t126 true a0_0 a0_1 a0_2)) = some r := H
  have A7 := Aside0.mk A70
  clear A70
  have HC8 := Aside0.mk H
  clear H
  go_enter Try.func4, Try.ntmps4
  go_upto_region 2 with (first | ((with_reducible refine gate_dst (N := 6) rfl ?_); (try (refine gate_guard (by rfl) ?_; dsimp only)); refine box_event ?hg (N := 6) ?hd (cs := #[.int .i64 a0_0, .int .i64 a0_1, .int .u64 a0_2]) (t := 24) ?hr ?_; (case hd => rfl); (case hg => rfl); (case hr => first | (go_simp; done) | (go_simp; rfl)); intro gb125 hg w9 hbox hb; have n0_ := Aside0.mk (below_step (by repeat (first | (with_reducible first | exact HB.out | apply below_alloc | apply pw_below_drewN | apply below_drew1) | exact HB.out)) hb); have n1_ := Aside0.mk (hbox); have n2_ := Aside0.mk ((by rw [hg]; exact (below_size (by repeat (first | (with_reducible first | exact HB.out | apply below_alloc | apply pw_below_drewN | apply below_drew1) | exact HB.out))) : w.heap.size ≤ gb125)); have n3_ := Aside0.mk ((by rw [hg]; exact (below_size (by repeat (first | (with_reducible first | exact HB.out | apply below_alloc | apply pw_below_drewN | apply below_drew1) | exact HB.out))) : w.heap.size ≤ gb125)); clear HB; have HB := n0_; have BK125 := n1_; have GW125 := n2_; have GE125 := n3_; clear n0_ n1_ n2_ n3_; clear hb hbox hg) | ((with_reducible refine gate_callee (f := 8) rfl ?_); refine goesL_ (some 22) rfl rfl Try.func8 (by kernel_rfl) rfl #[.slice A3 l3.length c3] rfl (by (try simp only [List.map_toArray, List.map_cons, List.map_nil]); first | done | rfl | (simp only [List.length_drop, List.length_take]; rfl)) ?_; (with_reducible refine (logbooklaw23_infos.calls k _ _ l3 t126 t127 _ ?side1 ?side2 A7.out).mono ?_); (case side1 => repeat (first | exact (Kd.C_below HR3.out HB.out) | (with_reducible refine Kd.C_alloc ?_ _) | (with_reducible refine Kd.C_drewN ?_ _) | (with_reducible refine Kd.C_drew ?_))); (case side2 => exact HC3.out); rintro e w10 ⟨v128, rfl, ho0, hb⟩; refine ⟨_, rfl, ?_⟩; have n0_ := Aside0.mk (Kd.R_lower ho0 (below_size (by repeat (first | (with_reducible first | exact HB.out | apply below_alloc | apply pw_below_drewN | apply below_drew1 | refine below_set ?_ GE125.out) | exact HB.out)))); have n1_ := Aside0.mk (blk_below (g := gb125) (o := .cells #[.int .i64 a0_0, .int .i64 a0_1, .int .u64 a0_2] 24 (0, 0)) (by (with_reducible repeat (first | refine blk_drewN ?_ _ | refine blk_drew ?_ | refine blk_alloc ?_ _)); exact BK125.out) hb); have n2_ := Aside0.mk (below_step (by repeat (first | (with_reducible first | exact HB.out | apply below_alloc | apply pw_below_drewN | apply below_drew1 | refine below_set ?_ GE125.out) | exact HB.out)) hb); clear BK125; clear HB; have HO129 := n0_; have BK125 := n1_; have HB := n2_; clear n0_ n1_ n2_; (try clear hb); (try clear hb2); (try clear hk); (try clear hi); (try clear ho0)))
  (try simp only [Act.put, List.setIfInBounds_toArray, List.set_cons_zero, List.set_cons_succ])
  go_cut [53] (fun v53 wc => ∃ (kq : Nat) (x53_7 : Bool), v53 = .bool x53_7 ∧ Aside0 (logbooklaw23_PolicyLess.j0 kq a1 a2 l3 a4 a5 t126 x53_7 a0_0 a0_1 a0_2 = some r) ∧ Aside0 (kq ≤ k) ∧ Aside0 (Kd.R k34 34 wc w.heap.size (fun _ => True) v128 t126) ∧ Aside0 (wc.heap[gb125]? = some (.cells #[.int .i64 a0_0, .int .i64 a0_1, .int .u64 a0_2] 24 (0, 0))) ∧ Aside0 (Below w.heap.size w wc))
  case first =>
    have H := HC8.out
    clear HC8
    by_cases c11 : t127 = true
    · subst c11
      have H1 : (if a1 < 0 then (logbooklaw23_PolicyLess.j0 k a1 a2 l3 a4 a5 t126 true a0_0 a0_1 a0_2) else (if a1 > 1099511627776 then (logbooklaw23_PolicyLess.j0 k a1 a2 l3 a4 a5 t126 true a0_0 a0_1 a0_2) else (if a2 > 4611686018427387904 then (logbooklaw23_PolicyLess.j0 k a1 a2 l3 a4 a5 t126 true a0_0 a0_1 a0_2) else (if a0_0 < 300 then (logbooklaw23_PolicyLess.j0 k a1 a2 l3 a4 a5 t126 true a0_0 a0_1 a0_2) else (if a0_1 < 300 then (logbooklaw23_PolicyLess.j0 k a1 a2 l3 a4 a5 t126 true a0_0 a0_1 a0_2) else (logbooklaw23_PolicyLess.j0 k a1 a2 l3 a4 a5 t126 (decide (a0_2 < 300)) a0_0 a0_1 a0_2)))))) = some r := by rw [if_pos rfl] at H; exact H
      clear H
      have H := H1
      clear H1
      by_cases c12 : a1 < 0
      · rw [if_pos c12] at H
        have c12b0 : decide (a1 < 0) = true := decide_eq_true c12
        clear c12
        (first | rw [c12b0] | (simp only [i64_w, i32_w]; rw [c12b0]) | skip)
        have H' := Aside0.mk H
        clear H
        go_wp2
        go_meet
        case rel => exact ⟨_, (true), (by first | rfl | (simp; done) | (simp [*]; done)), H', ⟨by first | omega | exact Nat.le_refl _⟩, ⟨by (with_reducible repeat (first | apply Kd.R_alloc | apply Kd.R_drewN | apply Kd.R_drew)); exact HO129.out⟩, ⟨by (with_reducible repeat (first | refine blk_drewN ?_ _ | refine blk_drew ?_ | refine blk_alloc ?_ _)); exact BK125.out⟩, ⟨by repeat (first | (with_reducible first | exact HB.out | apply below_alloc | apply pw_below_drewN | apply below_drew1 | refine below_set ?_ GE125.out) | exact HB.out)⟩⟩
      · rw [if_neg c12] at H
        have c12b0 : decide (a1 < 0) = false := decide_eq_false c12
        clear c12
        (first | rw [c12b0] | (simp only [i64_w, i32_w]; rw [c12b0]) | skip)
        by_cases c13 : a1 > 1099511627776
        · rw [if_pos c13] at H
          have c13b0 : decide (1099511627776 < a1) = true := decide_eq_true c13
          clear c13
          have H' := Aside0.mk H
          clear H
          go_wp2
          go_meet
          case rel => exact ⟨_, (true), (by first | rfl | (simp; done) | (simp [*]; done)), H', ⟨by first | omega | exact Nat.le_refl _⟩, ⟨by (with_reducible repeat (first | apply Kd.R_alloc | apply Kd.R_drewN | apply Kd.R_drew)); exact HO129.out⟩, ⟨by (with_reducible repeat (first | refine blk_drewN ?_ _ | refine blk_drew ?_ | refine blk_alloc ?_ _)); exact BK125.out⟩, ⟨by repeat (first | (with_reducible first | exact HB.out | apply below_alloc | apply pw_below_drewN | apply below_drew1 | refine below_set ?_ GE125.out) | exact HB.out)⟩⟩
        · rw [if_neg c13] at H
          have c13b0 : decide (1099511627776 < a1) = false := decide_eq_false c13
          clear c13
          by_cases c14 : a2 > 4611686018427387904
          · rw [if_pos c14] at H
            have c14b0 : decide (4611686018427387904 < a2) = true := decide_eq_true c14
            clear c14
            have H' := Aside0.mk H
            clear H
            go_wp2
            go_meet
            case rel => exact ⟨_, (true), (by first | rfl | (simp; done) | (simp [*]; done)), H', ⟨by first | omega | exact Nat.le_refl _⟩, ⟨by (with_reducible repeat (first | apply Kd.R_alloc | apply Kd.R_drewN | apply Kd.R_drew)); exact HO129.out⟩, ⟨by (with_reducible repeat (first | refine blk_drewN ?_ _ | refine blk_drew ?_ | refine blk_alloc ?_ _)); exact BK125.out⟩, ⟨by repeat (first | (with_reducible first | exact HB.out | apply below_alloc | apply pw_below_drewN | apply below_drew1 | refine below_set ?_ GE125.out) | exact HB.out)⟩⟩
          · rw [if_neg c14] at H
            have c14b0 : decide (4611686018427387904 < a2) = false := decide_eq_false c14
            clear c14
            by_cases c15 : a0_0 < 300
            · rw [if_pos c15] at H
              have c15b0 : decide (a0_0 < 300) = true := decide_eq_true c15
              clear c15
              have H' := Aside0.mk H
              clear H
              have hcz16_0 : w10.cell? ⟨gb125, 0, none⟩ = some (.int .i64 a0_0) := (blk_cell BK125.out 0).trans rfl
              have hcz16_1 : w10.cell? ⟨gb125, 1, none⟩ = some (.int .i64 a0_1) := (blk_cell BK125.out 1).trans rfl
              have hcz16_2 : w10.cell? ⟨gb125, 2, none⟩ = some (.int .u64 a0_2) := (blk_cell BK125.out 2).trans rfl
              have hfz16_0 := blk_frozen BK125.out 0
              have hfz16_1 := blk_frozen BK125.out 1
              have hfz16_2 := blk_frozen BK125.out 2
              go_wp2
              go_meet
              case rel => exact ⟨_, (true), (by first | rfl | (simp; done) | (simp [*]; done)), H', ⟨by first | omega | exact Nat.le_refl _⟩, ⟨by (with_reducible repeat (first | apply Kd.R_alloc | apply Kd.R_drewN | apply Kd.R_drew)); exact HO129.out⟩, ⟨by (with_reducible repeat (first | refine blk_drewN ?_ _ | refine blk_drew ?_ | refine blk_alloc ?_ _)); exact BK125.out⟩, ⟨by repeat (first | (with_reducible first | exact HB.out | apply below_alloc | apply pw_below_drewN | apply below_drew1 | refine below_set ?_ GE125.out) | exact HB.out)⟩⟩
            · rw [if_neg c15] at H
              have c15b0 : decide (a0_0 < 300) = false := decide_eq_false c15
              clear c15
              by_cases c17 : a0_1 < 300
              · rw [if_pos c17] at H
                have c17b0 : decide (a0_1 < 300) = true := decide_eq_true c17
                clear c17
                have H' := Aside0.mk H
                clear H
                have hcz18_0 : w10.cell? ⟨gb125, 0, none⟩ = some (.int .i64 a0_0) := (blk_cell BK125.out 0).trans rfl
                have hcz18_1 : w10.cell? ⟨gb125, 1, none⟩ = some (.int .i64 a0_1) := (blk_cell BK125.out 1).trans rfl
                have hcz18_2 : w10.cell? ⟨gb125, 2, none⟩ = some (.int .u64 a0_2) := (blk_cell BK125.out 2).trans rfl
                have hfz18_0 := blk_frozen BK125.out 0
                have hfz18_1 := blk_frozen BK125.out 1
                have hfz18_2 := blk_frozen BK125.out 2
                go_wp2
                go_meet
                case rel => exact ⟨_, (true), (by first | rfl | (simp; done) | (simp [*]; done)), H', ⟨by first | omega | exact Nat.le_refl _⟩, ⟨by (with_reducible repeat (first | apply Kd.R_alloc | apply Kd.R_drewN | apply Kd.R_drew)); exact HO129.out⟩, ⟨by (with_reducible repeat (first | refine blk_drewN ?_ _ | refine blk_drew ?_ | refine blk_alloc ?_ _)); exact BK125.out⟩, ⟨by repeat (first | (with_reducible first | exact HB.out | apply below_alloc | apply pw_below_drewN | apply below_drew1 | refine below_set ?_ GE125.out) | exact HB.out)⟩⟩
              · rw [if_neg c17] at H
                have c17b0 : decide (a0_1 < 300) = false := decide_eq_false c17
                clear c17
                have H' := Aside0.mk H
                clear H
                have hcz19_0 : w10.cell? ⟨gb125, 0, none⟩ = some (.int .i64 a0_0) := (blk_cell BK125.out 0).trans rfl
                have hcz19_1 : w10.cell? ⟨gb125, 1, none⟩ = some (.int .i64 a0_1) := (blk_cell BK125.out 1).trans rfl
                have hcz19_2 : w10.cell? ⟨gb125, 2, none⟩ = some (.int .u64 a0_2) := (blk_cell BK125.out 2).trans rfl
                have hfz19_0 := blk_frozen BK125.out 0
                have hfz19_1 := blk_frozen BK125.out 1
                have hfz19_2 := blk_frozen BK125.out 2
                go_wp2
                go_meet
                case rel => exact ⟨_, (decide (a0_2 < 300)), (by first | rfl | (simp; done) | (simp [*]; done)), H', ⟨by first | omega | exact Nat.le_refl _⟩, ⟨by (with_reducible repeat (first | apply Kd.R_alloc | apply Kd.R_drewN | apply Kd.R_drew)); exact HO129.out⟩, ⟨by (with_reducible repeat (first | refine blk_drewN ?_ _ | refine blk_drew ?_ | refine blk_alloc ?_ _)); exact BK125.out⟩, ⟨by repeat (first | (with_reducible first | exact HB.out | apply below_alloc | apply pw_below_drewN | apply below_drew1 | refine below_set ?_ GE125.out) | exact HB.out)⟩⟩
    · replace c11 := Bool.eq_false_iff.mpr c11
      subst c11
      have H1 : (logbooklaw23_PolicyLess.j0 k a1 a2 l3 a4 a5 t126 true a0_0 a0_1 a0_2) = some r := by rw [if_neg (show ¬ (false = true) by decide)] at H; exact H
      clear H
      have H := H1
      clear H1
      have H' := Aside0.mk H
      clear H
      go_wp2
      go_meet
      case rel => exact ⟨_, (true), (by first | rfl | (simp; done) | (simp [*]; done)), H', ⟨by first | omega | exact Nat.le_refl _⟩, ⟨by (with_reducible repeat (first | apply Kd.R_alloc | apply Kd.R_drewN | apply Kd.R_drew)); exact HO129.out⟩, ⟨by (with_reducible repeat (first | refine blk_drewN ?_ _ | refine blk_drew ?_ | refine blk_alloc ?_ _)); exact BK125.out⟩, ⟨by repeat (first | (with_reducible first | exact HB.out | apply below_alloc | apply pw_below_drewN | apply below_drew1 | refine below_set ?_ GE125.out) | exact HB.out)⟩⟩
  case rest =>
    clear HC8
    try clear c1
    try clear p2
    try clear c3
    try clear c4
    try clear c8
    try clear c11
    try clear c12
    try clear c12b0
    try clear c13
    try clear c13b0
    try clear c14
    try clear c14b0
    try clear c15
    try clear c15b0
    try clear c17
    try clear c17b0
    try clear hcz16_0
    try clear hcz16_1
    try clear hcz16_2
    try clear hcz18_0
    try clear hcz18_1
    try clear hcz18_2
    try clear hcz19_0
    try clear hcz19_1
    try clear hcz19_2
    try clear hfz16_0
    try clear hfz16_1
    try clear hfz16_2
    try clear hfz18_0
    try clear hfz18_1
    try clear hfz18_2
    try clear hfz19_0
    try clear hfz19_1
    try clear hfz19_2
    obtain ⟨kq, x53_7, rfl, HA, HJ7, HO_13, BK125, HB⟩ := hcut
    cases kq with
    | zero => exact absurd HA.out (by simp [logbooklaw23_PolicyLess.j0])
    | succ kj7 =>
      have H := HA.out
      clear HA
      simp only [logbooklaw23_PolicyLess.j0] at H
      by_cases c20 : x53_7 = true
      · subst c20
        have H1 : ((logbooklaw23_awake.f kj7).bind fun t130 => (some t130)) = some r := by rw [if_pos rfl] at H; exact H
        clear H
        have H := H1
        clear H1
        replace H := Option.bind_eq_some_iff.mp H
        obtain ⟨t130, A210, H⟩ := H
        replace H : (some t130) = some r := H
        have A21 := Aside0.mk A210
        clear A210
        obtain rfl := Option.some.inj H
        go_wp2_with (first | ((with_reducible refine gate_callee (f := 9) rfl ?_); refine goesL_ (some 54) rfl rfl Try.func9 (by kernel_rfl) rfl #[] rfl (by (try simp only [List.map_toArray, List.map_cons, List.map_nil]); first | done | rfl | (simp only [List.length_drop, List.length_take]; rfl)) ?_; (with_reducible refine (logbooklaw23_awake.calls kj7  t130 _ A21.out).mono ?_); rintro e w22 ⟨rfl, hb⟩; refine ⟨_, rfl, ?_⟩; have n0_ := Aside0.mk (Kd.R_below (by (with_reducible repeat (first | apply Kd.R_alloc | apply Kd.R_drewN | apply Kd.R_drew)); exact HO_13.out) hb); have n1_ := Aside0.mk (blk_below (g := gb125) (o := .cells #[.int .i64 a0_0, .int .i64 a0_1, .int .u64 a0_2] 24 (0, 0)) (by (with_reducible repeat (first | refine blk_drewN ?_ _ | refine blk_drew ?_ | refine blk_alloc ?_ _)); exact BK125.out) hb); have n2_ := Aside0.mk (below_step (by repeat (first | (with_reducible first | exact HB.out | apply below_alloc | apply pw_below_drewN | apply below_drew1 | refine below_set ?_ GE125.out) | exact HB.out)) hb); clear HO_13; clear BK125; clear HB; have HO_13 := n0_; have BK125 := n1_; have HB := n2_; clear n0_ n1_ n2_; (try clear hb); (try clear hb2); (try clear hk); (try clear hi)))
        go_ret
        exact ⟨by first | rfl | (simp [errW_none, errW_some] <;> rfl) | (simp [*, errW_none, errW_some] <;> rfl), by repeat (first | (with_reducible first | exact HB.out | apply below_alloc | apply pw_below_drewN | apply below_drew1 | refine below_set ?_ GE125.out) | exact HB.out)⟩
      · replace c20 := Bool.eq_false_iff.mpr c20
        subst c20
        have H1 : ((logbooklaw23_keep.f a0_0 a0_1 a0_2).bind fun bt131 => ((policy_Keep_Drop.f kj7 bt131.1 bt131.2.1 bt131.2.2 a1 0 a2 t126).bind fun t134 => ((logbooklaw23_keep.f (wrap64 (a0_0 - (wrap64 (a4)))) (wrap64 (a0_1 - (wrap64 (a4)))) (IntKind.u64.wrap (a0_2 - (IntKind.u64.wrap (a4))))).bind fun bt136 => ((policy_Keep_Drop.f kj7 bt136.1 bt136.2.1 bt136.2.2 a1 0 (IntKind.u64.wrap (a2 + (IntKind.u64.wrap (a5)))) t126).bind fun t139 => (logbooklaw23_PolicyLess.l0 kj7 l3 t134 t139 a1 (mn (mx t134 0) (l3.length : Int)) a0_0 a0_1 a0_2))))) = some r := by rw [if_neg (show ¬ (false = true) by decide)] at H; exact H
        clear H
        have H := H1
        clear H1
        replace H := Option.bind_eq_some_iff.mp H
        obtain ⟨⟨t131, t132, t133⟩, A230, H⟩ := H
        replace H : ((policy_Keep_Drop.f kj7 t131 t132 t133 a1 0 a2 t126).bind fun t134 => ((logbooklaw23_keep.f (wrap64 (a0_0 - (wrap64 (a4)))) (wrap64 (a0_1 - (wrap64 (a4)))) (IntKind.u64.wrap (a0_2 - (IntKind.u64.wrap (a4))))).bind fun bt136 => ((policy_Keep_Drop.f kj7 bt136.1 bt136.2.1 bt136.2.2 a1 0 (IntKind.u64.wrap (a2 + (IntKind.u64.wrap (a5)))) t126).bind fun t139 => (logbooklaw23_PolicyLess.l0 kj7 l3 t134 t139 a1 (mn (mx t134 0) (l3.length : Int)) a0_0 a0_1 a0_2)))) = some r := H
        have A23 := Aside0.mk A230
        clear A230
        replace H := Option.bind_eq_some_iff.mp H
        obtain ⟨t134, A240, H⟩ := H
        replace H : ((logbooklaw23_keep.f (wrap64 (a0_0 - (wrap64 (a4)))) (wrap64 (a0_1 - (wrap64 (a4)))) (IntKind.u64.wrap (a0_2 - (IntKind.u64.wrap (a4))))).bind fun bt136 => ((policy_Keep_Drop.f kj7 bt136.1 bt136.2.1 bt136.2.2 a1 0 (IntKind.u64.wrap (a2 + (IntKind.u64.wrap (a5)))) t126).bind fun t139 => (logbooklaw23_PolicyLess.l0 kj7 l3 t134 t139 a1 (mn (mx t134 0) (l3.length : Int)) a0_0 a0_1 a0_2))) = some r := H
        have A24 := Aside0.mk A240
        clear A240
        replace H := Option.bind_eq_some_iff.mp H
        obtain ⟨⟨t136, t137, t138⟩, A250, H⟩ := H
        replace H : ((policy_Keep_Drop.f kj7 t136 t137 t138 a1 0 (IntKind.u64.wrap (a2 + (IntKind.u64.wrap (a5)))) t126).bind fun t139 => (logbooklaw23_PolicyLess.l0 kj7 l3 t134 t139 a1 (mn (mx t134 0) (l3.length : Int)) a0_0 a0_1 a0_2)) = some r := H
        have A25 := Aside0.mk A250
        clear A250
        replace H := Option.bind_eq_some_iff.mp H
        obtain ⟨t139, A260, H⟩ := H
        replace H : (logbooklaw23_PolicyLess.l0 kj7 l3 t134 t139 a1 (mn (mx t134 0) (l3.length : Int)) a0_0 a0_1 a0_2) = some r := H
        have A26 := Aside0.mk A260
        clear A260
        obtain ⟨ji27, hji27⟩ : ∃ j_ : Int, (mx t134 0) = j_ := ⟨_, rfl⟩
        replace H : (logbooklaw23_PolicyLess.l0 kj7 l3 t134 t139 a1 (mn (ji27) (l3.length : Int)) a0_0 a0_1 a0_2) = some r := by first | (rw [hji27] at H; exact H) | (simp only [hji27] at H ⊢; exact H)
        (try rw [hji27] at A23)
        (try rw [hji27] at A24)
        (try rw [hji27] at A25)
        (try rw [hji27] at A26)
        (try (have hji27l : 0 ≤ ji27 := by (rw [← hji27]; unfold mx; (repeat' split) <;> omega)))
        (try (have hji27m : 0 ≤ ji27 := by omega))
        have hji27_ : (if t134 < 0 then 0 else t134) = ji27 := hji27
        obtain ⟨ji28, hji28⟩ : ∃ j_ : Int, (mn (ji27) (l3.length : Int)) = j_ := ⟨_, rfl⟩
        replace H : (logbooklaw23_PolicyLess.l0 kj7 l3 t134 t139 a1 ji28 a0_0 a0_1 a0_2) = some r := by first | (rw [hji28] at H; exact H) | (simp only [hji28] at H ⊢; exact H)
        (try rw [hji28] at A23)
        (try rw [hji28] at A24)
        (try rw [hji28] at A25)
        (try rw [hji28] at A26)
        have hji28_ : (if (l3.length : Int) < (ji27) then (l3.length : Int) else (ji27)) = ji28 := hji28
        have H' := Aside0.mk H
        clear H
        have hcz29_0 : wc.cell? ⟨gb125, 0, none⟩ = some (.int .i64 a0_0) := (blk_cell BK125.out 0).trans rfl
        have hcz29_1 : wc.cell? ⟨gb125, 1, none⟩ = some (.int .i64 a0_1) := (blk_cell BK125.out 1).trans rfl
        have hcz29_2 : wc.cell? ⟨gb125, 2, none⟩ = some (.int .u64 a0_2) := (blk_cell BK125.out 2).trans rfl
        have hfz29_0 := blk_frozen BK125.out 0
        have hfz29_1 := blk_frozen BK125.out 1
        have hfz29_2 := blk_frozen BK125.out 2
        go_wp2_with (first | ((with_reducible refine gate_callee (f := 10) rfl ?_); refine goesL_ (some 56) rfl rfl Try.func10 (by kernel_rfl) rfl #[.agg #[.int .i64 a0_0, .int .i64 a0_1, .int .u64 a0_2]] rfl (by (try simp only [List.map_toArray, List.map_cons, List.map_nil]); first | done | rfl | (simp only [List.length_drop, List.length_take]; rfl)) ?_; (with_reducible refine (logbooklaw23_keep.calls a0_0 a0_1 a0_2 t131 t132 t133 _ A23.out).mono ?_); rintro e w30 ⟨rfl, hb⟩; refine ⟨_, rfl, ?_⟩; have n0_ := Aside0.mk (Kd.R_below (by (with_reducible repeat (first | apply Kd.R_alloc | apply Kd.R_drewN | apply Kd.R_drew)); exact HO_13.out) hb); have n1_ := Aside0.mk (blk_below (g := gb125) (o := .cells #[.int .i64 a0_0, .int .i64 a0_1, .int .u64 a0_2] 24 (0, 0)) (by (with_reducible repeat (first | refine blk_drewN ?_ _ | refine blk_drew ?_ | refine blk_alloc ?_ _)); exact BK125.out) hb); have n2_ := Aside0.mk (below_step (by repeat (first | (with_reducible first | exact HB.out | apply below_alloc | apply pw_below_drewN | apply below_drew1 | refine below_set ?_ GE125.out) | exact HB.out)) hb); clear HO_13; clear BK125; clear HB; have HO_13 := n0_; have BK125 := n1_; have HB := n2_; clear n0_ n1_ n2_; (try clear hb); (try clear hb2); (try clear hk); (try clear hi); obtain ⟨Ao31, co31, eo31⟩ := Kd.R_slice HO_13.out; subst eo31) | ((with_reducible refine gate_callee (f := 11) rfl ?_); refine goesL_ (some 61) rfl rfl Try.func11 (by kernel_rfl) rfl #[.agg #[.int .i64 t131, .int .i64 t132, .int .u64 t133], .agg #[.int .i64 a1, .int .u64 0], .int .u64 a2, .slice Ao31 t126.length co31] rfl (by (try simp only [List.map_toArray, List.map_cons, List.map_nil]); first | done | rfl | (simp only [List.length_drop, List.length_take]; rfl)) ?_; (with_reducible refine (policy_Keep_Drop.calls kj7 t131 t132 t133 a1 0 a2 _ _ t126 t134 _ ?side1 ?side2 A24.out).mono ?_); (case side1 => repeat (first | exact (Kd.R_reads' HO_13.out).2.2 | (with_reducible refine Kd.C_alloc ?_ _) | (with_reducible refine Kd.C_drewN ?_ _) | (with_reducible refine Kd.C_drew ?_))); (case side2 => exact (Kd.R_reads' HO_13.out).2.1); rintro e w32 ⟨rfl, hb⟩; refine ⟨_, rfl, ?_⟩; have n0_ := Aside0.mk (Kd.R_below (by (with_reducible repeat (first | apply Kd.R_alloc | apply Kd.R_drewN | apply Kd.R_drew)); exact HO_13.out) hb); have n1_ := Aside0.mk (blk_below (g := gb125) (o := .cells #[.int .i64 a0_0, .int .i64 a0_1, .int .u64 a0_2] 24 (0, 0)) (by (with_reducible repeat (first | refine blk_drewN ?_ _ | refine blk_drew ?_ | refine blk_alloc ?_ _)); exact BK125.out) hb); have n2_ := Aside0.mk (below_step (by repeat (first | (with_reducible first | exact HB.out | apply below_alloc | apply pw_below_drewN | apply below_drew1 | refine below_set ?_ GE125.out) | exact HB.out)) hb); clear HO_13; clear BK125; clear HB; have HO_13 := n0_; have BK125 := n1_; have HB := n2_; clear n0_ n1_ n2_; (try clear hb); (try clear hb2); (try clear hk); (try clear hi); have hcz33_0 : w32.cell? ⟨gb125, 0, none⟩ = some (.int .i64 a0_0) := (blk_cell BK125.out 0).trans rfl; have hcz33_1 : w32.cell? ⟨gb125, 1, none⟩ = some (.int .i64 a0_1) := (blk_cell BK125.out 1).trans rfl; have hcz33_2 : w32.cell? ⟨gb125, 2, none⟩ = some (.int .u64 a0_2) := (blk_cell BK125.out 2).trans rfl; have hfz33_0 := blk_frozen BK125.out 0; have hfz33_1 := blk_frozen BK125.out 1; have hfz33_2 := blk_frozen BK125.out 2) | ((with_reducible refine gate_dst (N := 16) rfl ?_); (try (refine gate_guard (by rfl) ?_; dsimp only)); refine box_event ?hg (N := 16) ?hd (cs := #[.int .i64 0, .int .i64 0, .int .u64 0]) (t := 24) ?hr ?_; (case hd => rfl); (case hg => rfl); (case hr => first | (go_simp; done) | (go_simp; rfl)); intro gb135 hg w34 hbox hb; have n0_ := Aside0.mk (Kd.R_below (by (with_reducible repeat (first | apply Kd.R_alloc | apply Kd.R_drewN | apply Kd.R_drew)); exact HO_13.out) hb); have n1_ := Aside0.mk (blk_below (g := gb125) (o := .cells #[.int .i64 a0_0, .int .i64 a0_1, .int .u64 a0_2] 24 (0, 0)) (by (with_reducible repeat (first | refine blk_drewN ?_ _ | refine blk_drew ?_ | refine blk_alloc ?_ _)); exact BK125.out) hb); have n2_ := Aside0.mk (below_step (by repeat (first | (with_reducible first | exact HB.out | apply below_alloc | apply pw_below_drewN | apply below_drew1 | refine below_set ?_ GE125.out) | exact HB.out)) hb); have n3_ := Aside0.mk (hbox); have n4_ := Aside0.mk ((by rw [hg]; exact (below_size (by repeat (first | (with_reducible first | exact HB.out | apply below_alloc | apply pw_below_drewN | apply below_drew1 | refine below_set ?_ GE125.out) | exact HB.out))) : w.heap.size ≤ gb135)); have n5_ := Aside0.mk ((by rw [hg]; exact (below_size (by repeat (first | (with_reducible first | exact HB.out | apply below_alloc | apply pw_below_drewN | apply below_drew1 | refine below_set ?_ GE125.out) | exact HB.out))) : w.heap.size ≤ gb135)); have n6_ := Aside0.mk ((by rw [hg]; exact Nat.ne_of_lt (blk_lt (g := gb125) (o := .cells #[.int .i64 a0_0, .int .i64 a0_1, .int .u64 a0_2] 24 (0, 0)) (by (with_reducible repeat (first | refine blk_drewN ?_ _ | refine blk_drew ?_ | refine blk_alloc ?_ _)); exact BK125.out)) : gb125 ≠ gb135)); have n7_ := Aside0.mk ((by rw [hg]; exact Nat.ne_of_gt (blk_lt (g := gb125) (o := .cells #[.int .i64 a0_0, .int .i64 a0_1, .int .u64 a0_2] 24 (0, 0)) (by (with_reducible repeat (first | refine blk_drewN ?_ _ | refine blk_drew ?_ | refine blk_alloc ?_ _)); exact BK125.out)) : gb135 ≠ gb125)); clear HO_13; clear BK125; clear HB; have HO_13 := n0_; have BK125 := n1_; have HB := n2_; have BK135 := n3_; have GW135 := n4_; have GE135 := n5_; have NB125_135 := n6_; have NB135_125 := n7_; clear n0_ n1_ n2_ n3_ n4_ n5_ n6_ n7_; clear hb hbox hg; have hnb35 := NB135_125.out; have hnc35 := NB125_135.out; have hcz36_0 : w34.cell? ⟨gb135, 0, none⟩ = some (.int .i64 0) := (blk_cell BK135.out 0).trans rfl; have hcz36_1 : w34.cell? ⟨gb135, 1, none⟩ = some (.int .i64 0) := (blk_cell BK135.out 1).trans rfl; have hcz36_2 : w34.cell? ⟨gb135, 2, none⟩ = some (.int .u64 0) := (blk_cell BK135.out 2).trans rfl; have hfz36_0 := blk_frozen BK135.out 0; have hfz36_1 := blk_frozen BK135.out 1; have hfz36_2 := blk_frozen BK135.out 2) | ((with_reducible refine gate_callee (f := 10) rfl ?_); refine goesL_ (some 79) rfl rfl Try.func10 (by kernel_rfl) rfl #[.agg #[.int .i64 (wrap64 (a0_0 - (wrap64 (a4)))), .int .i64 (wrap64 (a0_1 - (wrap64 (a4)))), .int .u64 (IntKind.u64.wrap (a0_2 - (IntKind.u64.wrap (a4))))]] rfl (by (try simp only [List.map_toArray, List.map_cons, List.map_nil]); first | done | rfl | (simp only [List.length_drop, List.length_take]; rfl)) ?_; (with_reducible refine (logbooklaw23_keep.calls (wrap64 (a0_0 - (wrap64 (a4)))) (wrap64 (a0_1 - (wrap64 (a4)))) (IntKind.u64.wrap (a0_2 - (IntKind.u64.wrap (a4)))) t136 t137 t138 _ A25.out).mono ?_); rintro e w37 ⟨rfl, hb⟩; refine ⟨_, rfl, ?_⟩; have n0_ := Aside0.mk (Kd.R_below (by (with_reducible repeat (first | apply Kd.R_alloc | apply Kd.R_drewN | apply Kd.R_drew)); exact (Kd.R_mono (Kd.R_far (p := ⟨gb135, 2, none⟩) (Kd.R_far (p := ⟨gb135, 1, none⟩) (Kd.R_far (p := ⟨gb135, 0, none⟩) (Kd.R_types HO_13.out BK135.out (by decide)) (fun _ hk => hk.2) (.int .i64 (wrap64 (a0_0 - (wrap64 (a4)))))) (fun _ hk => hk.2) (.int .i64 (wrap64 (a0_1 - (wrap64 (a4)))))) (fun _ hk => hk.2) (.int .u64 (IntKind.u64.wrap (a0_2 - (IntKind.u64.wrap (a4)))))) (fun _ h_ => h_.1))) hb); have n1_ := Aside0.mk (blk_below (g := gb125) (o := .cells #[.int .i64 a0_0, .int .i64 a0_1, .int .u64 a0_2] 24 (0, 0)) (by (with_reducible repeat (first | refine blk_drewN ?_ _ | refine blk_drew ?_ | refine blk_alloc ?_ _)); refine blk_far ?_ NB125_135.out _; (with_reducible repeat (first | refine blk_drewN ?_ _ | refine blk_drew ?_ | refine blk_alloc ?_ _)); refine blk_far ?_ NB125_135.out _; (with_reducible repeat (first | refine blk_drewN ?_ _ | refine blk_drew ?_ | refine blk_alloc ?_ _)); refine blk_far ?_ NB125_135.out _; (with_reducible repeat (first | refine blk_drewN ?_ _ | refine blk_drew ?_ | refine blk_alloc ?_ _)); exact BK125.out) hb); have n2_ := Aside0.mk (blk_below (g := gb135) (o := .cells #[.int .i64 (wrap64 (a0_0 - (wrap64 (a4)))), .int .i64 (wrap64 (a0_1 - (wrap64 (a4)))), .int .u64 (IntKind.u64.wrap (a0_2 - (IntKind.u64.wrap (a4))))] 24 (0, 0)) (by (with_reducible repeat (first | refine blk_drewN ?_ _ | refine blk_drew ?_ | refine blk_alloc ?_ _)); refine blk_put (cs := #[.int .i64 (wrap64 (a0_0 - (wrap64 (a4)))), .int .i64 (wrap64 (a0_1 - (wrap64 (a4)))), .int .u64 0]) ?_ 2 _ rfl; (with_reducible repeat (first | refine blk_drewN ?_ _ | refine blk_drew ?_ | refine blk_alloc ?_ _)); refine blk_put (cs := #[.int .i64 (wrap64 (a0_0 - (wrap64 (a4)))), .int .i64 0, .int .u64 0]) ?_ 1 _ rfl; (with_reducible repeat (first | refine blk_drewN ?_ _ | refine blk_drew ?_ | refine blk_alloc ?_ _)); refine blk_put (cs := #[.int .i64 0, .int .i64 0, .int .u64 0]) ?_ 0 _ rfl; (with_reducible repeat (first | refine blk_drewN ?_ _ | refine blk_drew ?_ | refine blk_alloc ?_ _)); exact BK135.out) hb); have n3_ := Aside0.mk (below_step (by repeat (first | (with_reducible first | exact HB.out | apply below_alloc | apply pw_below_drewN | apply below_drew1 | refine below_set ?_ GE125.out | refine below_set ?_ GE135.out) | exact HB.out)) hb); clear HO_13; clear BK125; clear BK135; clear HB; have HO_13 := n0_; have BK125 := n1_; have BK135 := n2_; have HB := n3_; clear n0_ n1_ n2_ n3_; (try clear hb); (try clear hb2); (try clear hk); (try clear hi)) | ((with_reducible refine gate_callee (f := 11) rfl ?_); refine goesL_ (some 87) rfl rfl Try.func11 (by kernel_rfl) rfl #[.agg #[.int .i64 t136, .int .i64 t137, .int .u64 t138], .agg #[.int .i64 a1, .int .u64 0], .int .u64 (IntKind.u64.wrap (a2 + (IntKind.u64.wrap (a5)))), .slice Ao31 t126.length co31] rfl (by (try simp only [List.map_toArray, List.map_cons, List.map_nil]); first | done | rfl | (simp only [List.length_drop, List.length_take]; rfl)) ?_; (with_reducible refine (policy_Keep_Drop.calls kj7 t136 t137 t138 a1 0 (IntKind.u64.wrap (a2 + (IntKind.u64.wrap (a5)))) _ _ t126 t139 _ ?side1 ?side2 A26.out).mono ?_); (case side1 => repeat (first | exact (Kd.R_reads' HO_13.out).2.2 | (with_reducible refine Kd.C_alloc ?_ _) | (with_reducible refine Kd.C_drewN ?_ _) | (with_reducible refine Kd.C_drew ?_))); (case side2 => exact (Kd.R_reads' HO_13.out).2.1); rintro e w38 ⟨rfl, hb⟩; refine ⟨_, rfl, ?_⟩; have n0_ := Aside0.mk (Kd.R_below (by (with_reducible repeat (first | apply Kd.R_alloc | apply Kd.R_drewN | apply Kd.R_drew)); exact HO_13.out) hb); have n1_ := Aside0.mk (blk_below (g := gb125) (o := .cells #[.int .i64 a0_0, .int .i64 a0_1, .int .u64 a0_2] 24 (0, 0)) (by (with_reducible repeat (first | refine blk_drewN ?_ _ | refine blk_drew ?_ | refine blk_alloc ?_ _)); exact BK125.out) hb); have n2_ := Aside0.mk (blk_below (g := gb135) (o := .cells #[.int .i64 (wrap64 (a0_0 - (wrap64 (a4)))), .int .i64 (wrap64 (a0_1 - (wrap64 (a4)))), .int .u64 (IntKind.u64.wrap (a0_2 - (IntKind.u64.wrap (a4))))] 24 (0, 0)) (by (with_reducible repeat (first | refine blk_drewN ?_ _ | refine blk_drew ?_ | refine blk_alloc ?_ _)); exact BK135.out) hb); have n3_ := Aside0.mk (below_step (by repeat (first | (with_reducible first | exact HB.out | apply below_alloc | apply pw_below_drewN | apply below_drew1 | refine below_set ?_ GE125.out | refine below_set ?_ GE135.out) | exact HB.out)) hb); clear HO_13; clear BK125; clear BK135; clear HB; have HO_13 := n0_; have BK125 := n1_; have BK135 := n2_; have HB := n3_; clear n0_ n1_ n2_ n3_; (try clear hb); (try clear hb2); (try clear hk); (try clear hi)))
        go_loopg [18, 19] kj7 (fun kq v18 v19 w' => ∃ (x18_2 : Int) (x19_2 : Int), v18 = .int .i64 x18_2 ∧ v19 = .int .i64 x19_2 ∧ Aside0 (logbooklaw23_PolicyLess.l0 kq l3 t134 t139 x18_2 x19_2 a0_0 a0_1 a0_2 = some r) ∧ Aside0 (kq ≤ kj7) ∧ Aside0 (w'.heap[gb125]? = some (.cells #[.int .i64 a0_0, .int .i64 a0_1, .int .u64 a0_2] 24 (0, 0))) ∧ Aside0 (w'.heap[gb135]? = some (.cells #[.int .i64 (wrap64 (a0_0 - (wrap64 (a4)))), .int .i64 (wrap64 (a0_1 - (wrap64 (a4)))), .int .u64 (IntKind.u64.wrap (a0_2 - (IntKind.u64.wrap (a4))))] 24 (0, 0))) ∧ Aside0 (Below w.heap.size w w'))
        case atStart => exact ⟨(a1), (ji28), (by first | rfl | (simp; done) | (simp [*]; done)), (by first | rfl | (simp; done) | (simp only [← hji28] <;> (first | rfl | simp)) | (simp [*]; done)), H', ⟨Nat.le_refl _⟩, ⟨by (with_reducible repeat (first | refine blk_drewN ?_ _ | refine blk_drew ?_ | refine blk_alloc ?_ _)); exact BK125.out⟩, ⟨by (with_reducible repeat (first | refine blk_drewN ?_ _ | refine blk_drew ?_ | refine blk_alloc ?_ _)); exact BK135.out⟩, ⟨by repeat (first | (with_reducible first | exact HB.out | apply below_alloc | apply pw_below_drewN | apply below_drew1 | refine below_set ?_ GE125.out | refine below_set ?_ GE135.out) | exact HB.out)⟩⟩
        case round =>
          clear H'
          try clear c1
          try clear c2
          try clear p2
          try clear c3
          try clear c4
          try clear p6
          try clear c8
          try clear c9
          try clear c10
          try clear c11
          try clear c12
          try clear c12b0
          try clear c13
          try clear c13b0
          try clear c14
          try clear c14b0
          try clear c15
          try clear c15b0
          try clear c17
          try clear c17b0
          try clear c20
          try clear c35
          try clear hcz16_0
          try clear hcz16_1
          try clear hcz16_2
          try clear hcz18_0
          try clear hcz18_1
          try clear hcz18_2
          try clear hcz19_0
          try clear hcz19_1
          try clear hcz19_2
          try clear hcz29_0
          try clear hcz29_1
          try clear hcz29_2
          try clear hcz33_0
          try clear hcz33_1
          try clear hcz33_2
          try clear hcz36_0
          try clear hcz36_1
          try clear hcz36_2
          try clear hfz16_0
          try clear hfz16_1
          try clear hfz16_2
          try clear hfz18_0
          try clear hfz18_1
          try clear hfz18_2
          try clear hfz19_0
          try clear hfz19_1
          try clear hfz19_2
          try clear hfz29_0
          try clear hfz29_1
          try clear hfz29_2
          try clear hfz33_0
          try clear hfz33_1
          try clear hfz33_2
          try clear hfz36_0
          try clear hfz36_1
          try clear hfz36_2
          try clear p2
          obtain ⟨x18_2, x19_2, rfl, rfl, HA, HK2, BK125, BK135, HB⟩ := hrel
          cases gk with
          | zero => exact absurd HA.out (by simp [logbooklaw23_PolicyLess.l0])
          | succ k2 =>
            have H := HA.out
            clear HA
            simp only [logbooklaw23_PolicyLess.l0] at H
            by_cases c39 : x19_2 < (l3.length : Int)
            · rw [if_pos c39] at H
              have c39b0 : decide (x19_2 < (l3.length : Int)) = true := decide_eq_true c39
              clear c39
              by_cases c40 : 0 ≤ x19_2
              · rw [if_pos c40] at H
                have c40b0 : decide (0 ≤ x19_2) = true := decide_eq_true c40
                clear c40
                have H' := Aside0.mk H
                clear H
                have p140 : 0 ≤ (x19_2 : Int) := of_decide_eq_true (by first | (with_reducible assumption) | assumption)
                have q140 : x19_2 < (l3.length : Int) := of_decide_eq_true (by first | (with_reducible assumption) | assumption)
                obtain ⟨ad140, e140, hx140_0, hx140_1⟩ := at_T36 HR3.out x19_2 p140 q140
                cases e140
                replace hx140_0 := (HB.out.cell (World.block_lt_of_cell? w _ hx140_0)).trans hx140_0
                replace hx140_1 := (HB.out.cell (World.block_lt_of_cell? w _ hx140_1)).trans hx140_1
                replace p140 := eq_true p140
                replace q140 := eq_true q140
                go_wp2
                go_roundg k2
                case measure => have := HJ7.out; have := HK2.out; omega
                case rel => exact ⟨(wrap64 (x18_2 + ((rd_T36 l3 x19_2).f0))), (wrap64 (x19_2 + 1)), (by first | rfl | (simp; done) | (simp [*]; done)), (by first | rfl | (simp; done) | (simp [*]; done)), H', ⟨by have := HJ7.out; have := HK2.out; omega⟩, ⟨by (with_reducible repeat (first | refine blk_drewN ?_ _ | refine blk_drew ?_ | refine blk_alloc ?_ _)); exact BK125.out⟩, ⟨by (with_reducible repeat (first | refine blk_drewN ?_ _ | refine blk_drew ?_ | refine blk_alloc ?_ _)); exact BK135.out⟩, ⟨by repeat (first | (with_reducible first | exact HB.out | apply below_alloc | apply pw_below_drewN | apply below_drew1 | refine below_set ?_ GE125.out | refine below_set ?_ GE135.out) | exact HB.out)⟩⟩
              · rw [if_neg c40] at H
                exact absurd H (by simp)
            · rw [if_neg c39] at H
              have c39b0 : decide (x19_2 < (l3.length : Int)) = false := decide_eq_false c39
              clear c39
              by_cases c41 : t134 ≤ t139
              · rw [if_pos c41] at H
                have c41b0 : decide (t134 ≤ t139) = true := decide_eq_true c41
                clear c41
                by_cases c42 : t134 ≥ 0
                · rw [if_pos c42] at H
                  have c42b0 : decide (0 ≤ t134) = true := decide_eq_true c42
                  clear c42
                  by_cases c43 : t134 ≤ (l3.length : Int)
                  · rw [if_pos c43] at H
                    have c43b0 : decide (t134 ≤ (l3.length : Int)) = true := decide_eq_true c43
                    clear c43
                    by_cases c44 : x18_2 ≤ a0_0
                    · rw [if_pos c44] at H
                      have c44b0 : decide (x18_2 ≤ a0_0) = true := decide_eq_true c44
                      clear c44
                      replace H := Option.bind_eq_some_iff.mp H
                      obtain ⟨t141, A450, H⟩ := H
                      replace H : (some t141) = some r := H
                      have A45 := Aside0.mk A450
                      clear A450
                      obtain rfl := Option.some.inj H
                      have hnb46 := NB125_135.out
                      have hnc46 := NB135_125.out
                      have hcz47_0 : wr.cell? ⟨gb125, 0, none⟩ = some (.int .i64 a0_0) := (blk_cell BK125.out 0).trans rfl
                      have hcz47_1 : wr.cell? ⟨gb125, 1, none⟩ = some (.int .i64 a0_1) := (blk_cell BK125.out 1).trans rfl
                      have hcz47_2 : wr.cell? ⟨gb125, 2, none⟩ = some (.int .u64 a0_2) := (blk_cell BK125.out 2).trans rfl
                      have hfz47_0 := blk_frozen BK125.out 0
                      have hfz47_1 := blk_frozen BK125.out 1
                      have hfz47_2 := blk_frozen BK125.out 2
                      go_wp2_with (first | (go_at_call 9; (with_reducible refine (logbooklaw23_awake.calls k2  t141 _ A45.out).mono ?_); rintro e w48 ⟨rfl, hb⟩; have n0_ := Aside0.mk (blk_below (g := gb125) (o := .cells #[.int .i64 a0_0, .int .i64 a0_1, .int .u64 a0_2] 24 (0, 0)) (by (with_reducible repeat (first | refine blk_drewN ?_ _ | refine blk_drew ?_ | refine blk_alloc ?_ _)); exact BK125.out) hb); have n1_ := Aside0.mk (blk_below (g := gb135) (o := .cells #[.int .i64 (wrap64 (a0_0 - (wrap64 (a4)))), .int .i64 (wrap64 (a0_1 - (wrap64 (a4)))), .int .u64 (IntKind.u64.wrap (a0_2 - (IntKind.u64.wrap (a4))))] 24 (0, 0)) (by (with_reducible repeat (first | refine blk_drewN ?_ _ | refine blk_drew ?_ | refine blk_alloc ?_ _)); exact BK135.out) hb); have n2_ := Aside0.mk (below_step (by repeat (first | (with_reducible first | exact HB.out | apply below_alloc | apply pw_below_drewN | apply below_drew1 | refine below_set ?_ GE125.out | refine below_set ?_ GE135.out) | exact HB.out)) hb); clear BK125; clear BK135; clear HB; have BK125 := n0_; have BK135 := n1_; have HB := n2_; clear n0_ n1_ n2_; (try clear hb); (try clear hb2); (try clear hk); (try clear hi)))
                      go_ret
                      exact ⟨by first | rfl | (simp [errW_none, errW_some] <;> rfl) | (simp only [← hji27, ← hji28]; first | rfl | (simp [errW_none, errW_some] <;> rfl)) | (simp [*, errW_none, errW_some] <;> rfl), by repeat (first | (with_reducible first | exact HB.out | apply below_alloc | apply pw_below_drewN | apply below_drew1 | refine below_set ?_ GE125.out | refine below_set ?_ GE135.out) | exact HB.out)⟩
                    · rw [if_neg c44] at H
                      have c44b0 : decide (x18_2 ≤ a0_0) = false := decide_eq_false c44
                      clear c44
                      by_cases c49 : t134 = (l3.length : Int)
                      · rw [if_pos c49] at H
                        have c49b0 : (t134 == (l3.length : Int)) = true := beq_iff_eq.mpr c49
                        have c49b1 : (t134 != (l3.length : Int)) = false := bne_eq_false_iff_eq.mpr c49
                        clear c49
                        replace H := Option.bind_eq_some_iff.mp H
                        obtain ⟨t142, A500, H⟩ := H
                        replace H : (some t142) = some r := H
                        have A50 := Aside0.mk A500
                        clear A500
                        obtain rfl := Option.some.inj H
                        have hnb51 := NB125_135.out
                        have hnc51 := NB135_125.out
                        have hcz52_0 : wr.cell? ⟨gb125, 0, none⟩ = some (.int .i64 a0_0) := (blk_cell BK125.out 0).trans rfl
                        have hcz52_1 : wr.cell? ⟨gb125, 1, none⟩ = some (.int .i64 a0_1) := (blk_cell BK125.out 1).trans rfl
                        have hcz52_2 : wr.cell? ⟨gb125, 2, none⟩ = some (.int .u64 a0_2) := (blk_cell BK125.out 2).trans rfl
                        have hfz52_0 := blk_frozen BK125.out 0
                        have hfz52_1 := blk_frozen BK125.out 1
                        have hfz52_2 := blk_frozen BK125.out 2
                        go_wp2_with (first | (go_at_call 9; (with_reducible refine (logbooklaw23_awake.calls k2  t142 _ A50.out).mono ?_); rintro e w53 ⟨rfl, hb⟩; have n0_ := Aside0.mk (blk_below (g := gb125) (o := .cells #[.int .i64 a0_0, .int .i64 a0_1, .int .u64 a0_2] 24 (0, 0)) (by (with_reducible repeat (first | refine blk_drewN ?_ _ | refine blk_drew ?_ | refine blk_alloc ?_ _)); exact BK125.out) hb); have n1_ := Aside0.mk (blk_below (g := gb135) (o := .cells #[.int .i64 (wrap64 (a0_0 - (wrap64 (a4)))), .int .i64 (wrap64 (a0_1 - (wrap64 (a4)))), .int .u64 (IntKind.u64.wrap (a0_2 - (IntKind.u64.wrap (a4))))] 24 (0, 0)) (by (with_reducible repeat (first | refine blk_drewN ?_ _ | refine blk_drew ?_ | refine blk_alloc ?_ _)); exact BK135.out) hb); have n2_ := Aside0.mk (below_step (by repeat (first | (with_reducible first | exact HB.out | apply below_alloc | apply pw_below_drewN | apply below_drew1 | refine below_set ?_ GE125.out | refine below_set ?_ GE135.out) | exact HB.out)) hb); clear BK125; clear BK135; clear HB; have BK125 := n0_; have BK135 := n1_; have HB := n2_; clear n0_ n1_ n2_; (try clear hb); (try clear hb2); (try clear hk); (try clear hi)))
                        go_ret
                        exact ⟨by first | rfl | (simp [errW_none, errW_some] <;> rfl) | (simp only [← hji27, ← hji28]; first | rfl | (simp [errW_none, errW_some] <;> rfl)) | (simp [*, errW_none, errW_some] <;> rfl), by repeat (first | (with_reducible first | exact HB.out | apply below_alloc | apply pw_below_drewN | apply below_drew1 | refine below_set ?_ GE125.out | refine below_set ?_ GE135.out) | exact HB.out)⟩
                      · rw [if_neg c49] at H
                        have c49b0 : (t134 == (l3.length : Int)) = false := beq_eq_false_iff_ne.mpr c49
                        have c49b1 : (t134 != (l3.length : Int)) = true := bne_iff_ne.mpr c49
                        obtain rfl := Option.some.inj H
                        have hnb54 := NB125_135.out
                        have hnc54 := NB135_125.out
                        have hcz55_0 : wr.cell? ⟨gb125, 0, none⟩ = some (.int .i64 a0_0) := (blk_cell BK125.out 0).trans rfl
                        have hcz55_1 : wr.cell? ⟨gb125, 1, none⟩ = some (.int .i64 a0_1) := (blk_cell BK125.out 1).trans rfl
                        have hcz55_2 : wr.cell? ⟨gb125, 2, none⟩ = some (.int .u64 a0_2) := (blk_cell BK125.out 2).trans rfl
                        have hfz55_0 := blk_frozen BK125.out 0
                        have hfz55_1 := blk_frozen BK125.out 1
                        have hfz55_2 := blk_frozen BK125.out 2
                        go_wp2
                        go_ret
                        exact ⟨by first | rfl | (simp [errW_none, errW_some] <;> rfl) | (simp only [← hji27, ← hji28]; first | rfl | (simp [errW_none, errW_some] <;> rfl)) | (simp [*, errW_none, errW_some] <;> rfl), by repeat (first | (with_reducible first | exact HB.out | apply below_alloc | apply pw_below_drewN | apply below_drew1 | refine below_set ?_ GE125.out | refine below_set ?_ GE135.out) | exact HB.out)⟩
                  · rw [if_neg c43] at H
                    have c43b0 : decide (t134 ≤ (l3.length : Int)) = false := decide_eq_false c43
                    clear c43
                    obtain rfl := Option.some.inj H
                    go_wp2
                    go_ret
                    exact ⟨by first | rfl | (simp [errW_none, errW_some] <;> rfl) | (simp only [← hji27, ← hji28]; first | rfl | (simp [errW_none, errW_some] <;> rfl)) | (simp [*, errW_none, errW_some] <;> rfl), by repeat (first | (with_reducible first | exact HB.out | apply below_alloc | apply pw_below_drewN | apply below_drew1 | refine below_set ?_ GE125.out | refine below_set ?_ GE135.out) | exact HB.out)⟩
                · rw [if_neg c42] at H
                  have c42b0 : decide (0 ≤ t134) = false := decide_eq_false c42
                  clear c42
                  obtain rfl := Option.some.inj H
                  go_wp2
                  go_ret
                  exact ⟨by first | rfl | (simp [errW_none, errW_some] <;> rfl) | (simp only [← hji27, ← hji28]; first | rfl | (simp [errW_none, errW_some] <;> rfl)) | (simp [*, errW_none, errW_some] <;> rfl), by repeat (first | (with_reducible first | exact HB.out | apply below_alloc | apply pw_below_drewN | apply below_drew1 | refine below_set ?_ GE125.out | refine below_set ?_ GE135.out) | exact HB.out)⟩
              · rw [if_neg c41] at H
                have c41b0 : decide (t134 ≤ t139) = false := decide_eq_false c41
                clear c41
                obtain rfl := Option.some.inj H
                go_wp2
                go_ret
                exact ⟨by first | rfl | (simp [errW_none, errW_some] <;> rfl) | (simp only [← hji27, ← hji28]; first | rfl | (simp [errW_none, errW_some] <;> rfl)) | (simp [*, errW_none, errW_some] <;> rfl), by repeat (first | (with_reducible first | exact HB.out | apply below_alloc | apply pw_below_drewN | apply below_drew1 | refine below_set ?_ GE125.out | refine below_set ?_ GE135.out) | exact HB.out)⟩

end Go.Proofs.Ytpmaihlmccebhaa.PPolicyLess
