-- LAID BY gprint.py: a scratch copy of the print, with functions that this session proved by hand among the printed ones
import Derived.Test.YtfhnmcjajpnhpaaDoorPOpWritesx0
import Derived.Test.YtfhnmcjajpnhpaaDoorPOpWritesx1
namespace Go.Proofs.YtfhnmcjajpnhpaaDoor.POpWrites
open Go.RowKit Go.Proofs.YtfhnmcjajpnhpaaDoorW.PrintWords Go.Proofs.YtfhnmcjajpnhpaaDoorW.PrintLast Go.Proofs.YtfhnmcjajpnhpaaDoor.Conv Go.Proofs.YtfhnmcjajpnhpaaDoor.Bld Go.Proofs.YtfhnmcjajpnhpaaDoorW.PrintMore
attribute [local go_sem] max2_int min2_int max_two min_two max_three min_three max_four min_four gtr_less   -- for this text's walks alone
set_option linter.unusedVariables false
set_option linter.unusedSimpArgs false

/-! ### strings_genSplit: function 38 -/
mutual
def strings_genSplit.j0 : Nat → ByteArray → ByteArray → Int → Int → Option (List ByteArray)
  | 0, _, _, _, _ => none
  | k + 1, x0, x1, x2, x3 => if 0 ≤ (mn x3 (wrap64 ((x0.size : Int) + 1))) then (if (mn x3 (wrap64 ((x0.size : Int) + 1)) : Int).toNat ≤ 17592186044416 then (strings_genSplit.l0 k x0 x1 x2 (wrap64 ((mn x3 (wrap64 ((x0.size : Int) + 1))) - 1)) (List.replicate (mn x3 (wrap64 ((x0.size : Int) + 1)) : Int).toNat (⟨#[]⟩ : ByteArray)) 0) else (none)) else (none)
def strings_genSplit.l0 : Nat → ByteArray → ByteArray → Int → Int → List ByteArray → Int → Option (List ByteArray)
  | 0, _, _, _, _, _, _ => none
  | k + 1, x0, x1, x2, x3, x9, x10 => if x10 < x3 then ((strings_Index.f x0 x1).bind fun t115 => (if t115 < 0 then (if 0 ≤ x10 then (if x10 < (x9.length : Int) then (if 0 ≤ (wrap64 (x10 + 1)) then (if (wrap64 (x10 + 1)) ≤ (x9.length : Int) then (some ((x9.set (x10 : Int).toNat x0).take ((wrap64 (x10 + 1)) : Int).toNat)) else (none)) else (none)) else (none)) else (none)) else (if 0 ≤ (wrap64 (t115 + x2)) then (if (wrap64 (t115 + x2)) ≤ (x0.size : Int) then (if 0 ≤ x10 then (if x10 < (x9.length : Int) then (if 0 ≤ (wrap64 (t115 + (x1.size : Int))) then (if (wrap64 (t115 + (x1.size : Int))) ≤ (x0.size : Int) then (strings_genSplit.l0 k (x0.extract ((wrap64 (t115 + (x1.size : Int))) : Int).toNat x0.size) x1 x2 x3 (x9.set (x10 : Int).toNat (x0.extract 0 ((wrap64 (t115 + x2)) : Int).toNat)) (wrap64 (x10 + 1))) else (none)) else (none)) else (none)) else (none)) else (none)) else (none)))) else (if 0 ≤ x10 then (if x10 < (x9.length : Int) then (if 0 ≤ (wrap64 (x10 + 1)) then (if (wrap64 (x10 + 1)) ≤ (x9.length : Int) then (some ((x9.set (x10 : Int).toNat x0).take ((wrap64 (x10 + 1)) : Int).toNat)) else (none)) else (none)) else (none)) else (none))
end
def strings_genSplit.f (k : Nat) (a0 : ByteArray) (a1 : ByteArray) (a2 : Int) (a3 : Int) : Option (List ByteArray) := if a3 = 0 then (some ([] : List ByteArray)) else (if a1.toList = ([] : List UInt8) then ((strings_explode.f a0 a3).bind fun t108 => (some t108)) else (if a3 < 0 then ((strings_Count.f a0 a1).bind fun t111 => (strings_genSplit.j0 k a0 a1 a2 (wrap64 (t111 + 1)))) else (strings_genSplit.j0 k a0 a1 a2 a3)))
theorem strings_genSplit.mono_l : ∀ k, (∀ y0 y1 y2 y3, LeO (strings_genSplit.j0 k y0 y1 y2 y3) (strings_genSplit.j0 (k + 1) y0 y1 y2 y3)) ∧ (∀ y0 y1 y2 y3 y4 y5, LeO (strings_genSplit.l0 k y0 y1 y2 y3 y4 y5) (strings_genSplit.l0 (k + 1) y0 y1 y2 y3 y4 y5))
  | 0 => ⟨fun _ _ _ _ r h => by simp [strings_genSplit.j0] at h, fun _ _ _ _ _ _ r h => by simp [strings_genSplit.l0] at h⟩
  | k + 1 => by
    obtain ⟨ih0, ih1⟩ := strings_genSplit.mono_l k
    refine ⟨?_, ?_⟩
    · intro y0 y1 y2 y3
      unfold strings_genSplit.j0
      repeat' first
      | (with_reducible exact ih0 _ _ _ _)
      | (with_reducible exact ih1 _ _ _ _ _ _)
      | (with_reducible exact LeO.refl _)
      | (with_reducible exact LeO.none _)
      | (with_reducible refine LeO.ite ?_ ?_)
      | (with_reducible refine LeO.bind ?_ (fun _ => ?_))
      | exact ih0 _ _ _ _
      | exact ih1 _ _ _ _ _ _
      | exact LeO.none _
      | refine LeO.ite ?_ ?_
      | refine LeO.bind ?_ (fun _ => ?_)
    · intro y0 y1 y2 y3 y4 y5
      unfold strings_genSplit.l0
      repeat' first
      | (with_reducible exact ih0 _ _ _ _)
      | (with_reducible exact ih1 _ _ _ _ _ _)
      | (with_reducible exact LeO.refl _)
      | (with_reducible exact LeO.none _)
      | (with_reducible refine LeO.ite ?_ ?_)
      | (with_reducible refine LeO.bind ?_ (fun _ => ?_))
      | exact ih0 _ _ _ _
      | exact ih1 _ _ _ _ _ _
      | exact LeO.none _
      | refine LeO.ite ?_ ?_
      | refine LeO.bind ?_ (fun _ => ?_)
theorem strings_genSplit.mono : ∀ a0 a1 a2 a3 k, LeO (strings_genSplit.f k a0 a1 a2 a3) (strings_genSplit.f (k + 1) a0 a1 a2 a3) := by
  intro a0 a1 a2 a3 k
  obtain ⟨ih0, ih1⟩ := strings_genSplit.mono_l k
  unfold strings_genSplit.f
  repeat' first
      | (with_reducible exact ih0 _ _ _ _)
      | (with_reducible exact ih1 _ _ _ _ _ _)
      | (with_reducible exact LeO.refl _)
      | (with_reducible exact LeO.none _)
      | (with_reducible refine LeO.ite ?_ ?_)
      | (with_reducible refine LeO.bind ?_ (fun _ => ?_))
      | exact ih0 _ _ _ _
      | exact ih1 _ _ _ _ _ _
      | exact LeO.none _
      | refine LeO.ite ?_ ?_
      | refine LeO.bind ?_ (fun _ => ?_)
set_option maxHeartbeats 8000000 in
set_option maxRecDepth 100000 in
theorem strings_genSplit.calls (k : Nat) (a0 : ByteArray) (a1 : ByteArray) (a2 : Int) (a3 : Int) (r : List ByteArray) (w : World) (h : strings_genSplit.f k a0 a1 a2 a3 = some r) :
    Calls Tryd.prog 38 #[.string a0, .string a1, .int .i64 a2, .int .i64 a3] w fun e w' => ∃ v0_ : Value, e = .returned (v0_) ∧ Kd.R Kd.string 9 w' w.heap.size (fun _ => True) v0_ r ∧ Below w.heap.size w w' := by
  have HB := Aside0.mk (Below.refl w.heap.size w)
  have H : (if a3 = 0 then (some ([] : List ByteArray)) else (if a1.toList = ([] : List UInt8) then ((strings_explode.f a0 a3).bind fun t108 => (some t108)) else (if a3 < 0 then ((strings_Count.f a0 a1).bind fun t111 => (strings_genSplit.j0 k a0 a1 a2 (wrap64 (t111 + 1)))) else (strings_genSplit.j0 k a0 a1 a2 a3)))) = some r := h
  clear h
  by_cases c5 : a3 = 0
  · rw [if_pos c5] at H
    have c5b0 : (a3 == 0) = true := beq_iff_eq.mpr c5
    have c5b1 : (a3 != 0) = false := bne_eq_false_iff_eq.mpr c5
    clear c5
    obtain rfl := Option.some.inj H
    go_enter Tryd.func38, Tryd.ntmps38
    go_wp2
    go_ret
    exact ⟨_, by first | rfl | (simp [errW_none, errW_some] <;> rfl) | (simp [*, errW_none, errW_some] <;> rfl), by first | exact Kd.R_nil _ _ _ _ _ | exact Kd.N_nil _ _ _ _ _ | exact Kd.V_nil _ _ _ _ _ | exact Kd.Q_nil _ _ _ _ _ | exact Kd.S_nil _ _ _ _ _, by repeat (first | (with_reducible first | exact HB.out | apply below_alloc | apply pw_below_drewN | apply below_drew1) | exact HB.out)⟩
  · rw [if_neg c5] at H
    have c5b0 : (a3 == 0) = false := beq_eq_false_iff_ne.mpr c5
    have c5b1 : (a3 != 0) = true := bne_iff_ne.mpr c5
    by_cases c6 : a1.toList = ([] : List UInt8)
    · rw [if_pos c6] at H
      have c6b0 : (a1.toList == ([] : List UInt8)) = true := beq_iff_eq.mpr c6
      have c6b1 : (a1.toList != ([] : List UInt8)) = false := bne_eq_false_iff_eq.mpr c6
      clear c6
      replace H := Option.bind_eq_some_iff.mp H
      obtain ⟨t108, A70, H⟩ := H
      replace H : (some t108) = some r := H
      have A7 := Aside0.mk A70
      clear A70
      obtain rfl := Option.some.inj H
      go_enter Tryd.func38, Tryd.ntmps38
      go_wp2_with (first | ((with_reducible refine gate_callee (f := 47) rfl ?_); refine goesL_ (some 18) rfl rfl Tryd.func47 (by kernel_rfl) rfl #[.string a0, .int .i64 a3] rfl (by (try simp only [List.map_toArray, List.map_cons, List.map_nil]); first | done | rfl | (simp only [List.length_drop, List.length_take]; rfl)) ?_; (with_reducible refine (strings_explode.calls a0 a3 t108 _ A7.out).mono ?_); rintro e w8 ⟨v109, rfl, ho0, hb⟩; refine ⟨_, rfl, ?_⟩; have n0_ := Aside0.mk (Kd.R_lower ho0 (below_size (by repeat (first | (with_reducible first | exact HB.out | apply below_alloc | apply pw_below_drewN | apply below_drew1) | exact HB.out)))); have n1_ := Aside0.mk (below_step (by repeat (first | (with_reducible first | exact HB.out | apply below_alloc | apply pw_below_drewN | apply below_drew1) | exact HB.out)) hb); clear HB; have HO110 := n0_; have HB := n1_; clear n0_ n1_; (try clear hb); (try clear hb2); (try clear hk); (try clear hi); (try clear ho0)))
      go_ret
      exact ⟨_, by first | rfl | (simp [errW_none, errW_some] <;> rfl) | (simp [*, errW_none, errW_some] <;> rfl), by (with_reducible repeat (first | apply Kd.R_alloc | apply Kd.R_drewN | apply Kd.R_drew)); exact HO110.out, by repeat (first | (with_reducible first | exact HB.out | apply below_alloc | apply pw_below_drewN | apply below_drew1) | exact HB.out)⟩
    · rw [if_neg c6] at H
      have c6b0 : (a1.toList == ([] : List UInt8)) = false := beq_eq_false_iff_ne.mpr c6
      have c6b1 : (a1.toList != ([] : List UInt8)) = true := bne_iff_ne.mpr c6
      have HC9 := Aside0.mk H
      clear H
      go_enter Tryd.func38, Tryd.ntmps38
      go_upto_if 20 with (fail)
      go_cut [3] (fun v3 wc => ∃ (kq : Nat) (x3_8 : Int), v3 = .int .i64 x3_8 ∧ Aside0 (strings_genSplit.j0 kq a0 a1 a2 x3_8 = some r) ∧ Aside0 (kq ≤ k) ∧ Aside0 (Below w.heap.size w wc))
      case first =>
        have H := HC9.out
        clear HC9
        by_cases c10 : a3 < 0
        · rw [if_pos c10] at H
          have c10b0 : decide (a3 < 0) = true := decide_eq_true c10
          clear c10
          (first | rw [c10b0] | (simp only [i64_w, i32_w]; rw [c10b0]) | skip)
          replace H := Option.bind_eq_some_iff.mp H
          obtain ⟨t111, A110, H⟩ := H
          replace H : (strings_genSplit.j0 k a0 a1 a2 (wrap64 (t111 + 1))) = some r := H
          have A11 := Aside0.mk A110
          clear A110
          have H' := Aside0.mk H
          clear H
          go_wp2_with (first | ((with_reducible refine gate_callee (f := 48) rfl ?_); refine goesL_ (some 23) rfl rfl Tryd.func48 (by kernel_rfl) rfl #[.string a0, .string a1] rfl (by (try simp only [List.map_toArray, List.map_cons, List.map_nil]); first | done | rfl | (simp only [List.length_drop, List.length_take]; rfl)) ?_; (with_reducible refine (strings_Count.calls a0 a1 t111 _ A11.out).mono ?_); rintro e w' ⟨rfl, ⟨nd, rfl⟩⟩; refine ⟨_, rfl, ?_⟩))
          go_meet
          case rel => exact ⟨_, (wrap64 (t111 + 1)), (by first | rfl | (simp; done) | (simp [*]; done) | exact isEmpty_bne _), H', ⟨by first | omega | exact Nat.le_refl _⟩, ⟨by repeat (first | (with_reducible first | exact HB.out | apply below_alloc | apply pw_below_drewN | apply below_drew1) | exact HB.out)⟩⟩
        · rw [if_neg c10] at H
          have c10b0 : decide (a3 < 0) = false := decide_eq_false c10
          clear c10
          (first | rw [c10b0] | (simp only [i64_w, i32_w]; rw [c10b0]) | skip)
          have H' := Aside0.mk H
          clear H
          go_wp2
          go_meet
          case rel => exact ⟨_, (a3), (by first | rfl | (simp; done) | (simp [*]; done) | exact isEmpty_bne _), H', ⟨by first | omega | exact Nat.le_refl _⟩, ⟨by repeat (first | (with_reducible first | exact HB.out | apply below_alloc | apply pw_below_drewN | apply below_drew1) | exact HB.out)⟩⟩
      case rest =>
        clear HC9
        try clear c1
        try clear p2
        try clear c3
        try clear c4
        try clear c5
        try clear c5b0
        try clear c5b1
        try clear c6
        try clear c6b0
        try clear c6b1
        try clear p6
        try clear c10
        try clear c10b0
        obtain ⟨kq, x3_8, rfl, HA, HJ8, HB⟩ := hcut
        cases kq with
        | zero => exact absurd HA.out (by simp [strings_genSplit.j0])
        | succ kj8 =>
          have H := HA.out
          clear HA
          simp only [strings_genSplit.j0] at H
          obtain ⟨ji12, hji12⟩ : ∃ j_ : Int, (mn x3_8 (wrap64 ((a0.size : Int) + 1))) = j_ := ⟨_, rfl⟩
          replace H : (if 0 ≤ (ji12) then (if (ji12 : Int).toNat ≤ 17592186044416 then (strings_genSplit.l0 kj8 a0 a1 a2 (wrap64 ((ji12) - 1)) (List.replicate (ji12 : Int).toNat (⟨#[]⟩ : ByteArray)) 0) else (none)) else (none)) = some r := by first | (rw [hji12] at H; exact H) | (simp only [hji12] at H ⊢; exact H)
          have hji12_ : (if (wrap64 ((a0.size : Int) + 1)) < x3_8 then (wrap64 ((a0.size : Int) + 1)) else x3_8) = ji12 := hji12
          by_cases c13 : 0 ≤ (ji12)
          · rw [if_pos c13] at H
            have c13b0 := eq_true c13
            have c13b1 : decide (0 ≤ (ji12)) = true := decide_eq_true c13
            clear c13
            by_cases c14 : (ji12 : Int).toNat ≤ 17592186044416
            · rw [if_pos c14] at H
              have c14b0 := eq_true c14
              have c14b1 : decide ((ji12 : Int).toNat ≤ 17592186044416) = true := decide_eq_true c14
              clear c14
              obtain ⟨y112, hy112⟩ : ∃ y_ : List ByteArray, y_ = (List.replicate (ji12 : Int).toNat (⟨#[]⟩ : ByteArray)) := ⟨_, rfl⟩
              replace H : (strings_genSplit.l0 kj8 a0 a1 a2 (wrap64 ((ji12) - 1)) y112 0) = some r := by first | (rw [hy112]; with_reducible exact H) | (have H2_ := (Option.bind_some _ _).symm.trans H; rw [hy112]; with_reducible exact H2_) | (have H2_ := (Option.bind_some _ _).symm.trans H; with_reducible exact H2_) | with_reducible exact H | (rw [hy112]; exact H) | exact H
              have Ny112 := Aside0.mk hy112
              clear hy112
              have H' := Aside0.mk H
              clear H
              go_wp2_with (first | ((with_reducible refine gate_dst (N := 31) rfl ?_); refine Kd.R_make Kd.string _ 9 rfl (N := 31) rfl 24 _ _ rfl ji12 rfl rfl Tryd.underlying24 (.string ⟨#[]⟩) 16 info9 rfl (by decide) (by omega) (⟨#[]⟩ : ByteArray) (ok := fun _ => True) (okp := fun _ => True) rfl (fun _ hk => hk) trivial (of_decide_eq_true (by first | (with_reducible assumption) | assumption)) (Nat.le_trans (Nat.mul_le_mul_right _ (of_decide_eq_true (by first | (with_reducible assumption) | assumption) : ji12.toNat ≤ 17592186044416)) (by omega)) (Below.refl _ _) (Nat.le_refl _) ?_; intro v113 w15 ho16 hb hg_ hnew_; clear hg_ hnew_; (first | rw [← Ny112.out] at ho16 | (simp only [Int.reduceToNat] at ho16; rw [← Ny112.out] at ho16)); have n0_ := Aside0.mk (Kd.R_lower ho16 (below_size (by repeat (first | (with_reducible first | exact HB.out | apply below_alloc | apply pw_below_drewN | apply below_drew1) | exact HB.out)))); have n1_ := Aside0.mk (below_step (by repeat (first | (with_reducible first | exact HB.out | apply below_alloc | apply pw_below_drewN | apply below_drew1) | exact HB.out)) hb); clear HB; have HO114 := n0_; have HB := n1_; clear n0_ n1_; clear hb ho16))
              go_loopg [0, 10] kj8 (fun kq v0 v10 w' => ∃ (x0_2 : ByteArray) (x9_2 : List ByteArray) (x10_2 : Int), v0 = .string x0_2 ∧ v10 = .int .i64 x10_2 ∧ Aside0 (strings_genSplit.l0 kq x0_2 a1 a2 (wrap64 ((ji12) - 1)) x9_2 x10_2 = some r) ∧ Aside0 (kq ≤ kj8) ∧ Aside0 (Kd.R Kd.string 9 w' w.heap.size (fun _ => True) v113 x9_2) ∧ Aside0 (Below w.heap.size w w'))
              case atStart => exact ⟨(a0), (y112), (0), (by first | rfl | (simp; done) | (simp [*]; done) | exact isEmpty_bne _), (by first | rfl | (simp; done) | (simp [*]; done) | exact isEmpty_bne _), H', ⟨Nat.le_refl _⟩, ⟨by (with_reducible repeat (first | apply Kd.R_alloc | apply Kd.R_drewN | apply Kd.R_drew)); exact HO114.out⟩, ⟨by repeat (first | (with_reducible first | exact HB.out | apply below_alloc | apply pw_below_drewN | apply below_drew1) | exact HB.out)⟩⟩
              case round =>
                clear H'
                try clear c1
                try clear p2
                try clear c3
                try clear c4
                try clear c5
                try clear c5b0
                try clear c5b1
                try clear c6
                try clear c6b0
                try clear c6b1
                try clear p6
                try clear c10
                try clear c10b0
                try clear c13
                try clear c13b0
                try clear c13b1
                try clear c14
                try clear c14b0
                try clear c14b1
                try clear p2
                try clear p6
                obtain ⟨x0_2, x9_2, x10_2, rfl, rfl, HA, HK2, HO_9, HB⟩ := hrel
                cases gk with
                | zero => exact absurd HA.out (by simp [strings_genSplit.l0])
                | succ k2 =>
                  have H := HA.out
                  clear HA
                  simp only [strings_genSplit.l0] at H
                  by_cases c17 : x10_2 < (wrap64 ((ji12) - 1))
                  · rw [if_pos c17] at H
                    have c17b0 : decide (x10_2 < (wrap64 ((ji12) - 1))) = true := decide_eq_true c17
                    clear c17
                    replace H := Option.bind_eq_some_iff.mp H
                    obtain ⟨t115, A180, H⟩ := H
                    replace H : (if t115 < 0 then (if 0 ≤ x10_2 then (if x10_2 < (x9_2.length : Int) then (if 0 ≤ (wrap64 (x10_2 + 1)) then (if (wrap64 (x10_2 + 1)) ≤ (x9_2.length : Int) then (some ((x9_2.set (x10_2 : Int).toNat x0_2).take ((wrap64 (x10_2 + 1)) : Int).toNat)) else (none)) else (none)) else (none)) else (none)) else (if 0 ≤ (wrap64 (t115 + a2)) then (if (wrap64 (t115 + a2)) ≤ (x0_2.size : Int) then (if 0 ≤ x10_2 then (if x10_2 < (x9_2.length : Int) then (if 0 ≤ (wrap64 (t115 + (a1.size : Int))) then (if (wrap64 (t115 + (a1.size : Int))) ≤ (x0_2.size : Int) then (strings_genSplit.l0 k2 (x0_2.extract ((wrap64 (t115 + (a1.size : Int))) : Int).toNat x0_2.size) a1 a2 (wrap64 ((ji12) - 1)) (x9_2.set (x10_2 : Int).toNat (x0_2.extract 0 ((wrap64 (t115 + a2)) : Int).toNat)) (wrap64 (x10_2 + 1))) else (none)) else (none)) else (none)) else (none)) else (none)) else (none))) = some r := H
                    have A18 := Aside0.mk A180
                    clear A180
                    by_cases c19 : t115 < 0
                    · rw [if_pos c19] at H
                      have c19b0 : decide (t115 < 0) = true := decide_eq_true c19
                      clear c19
                      by_cases c20 : 0 ≤ x10_2
                      · rw [if_pos c20] at H
                        have c20b0 : decide (0 ≤ x10_2) = true := decide_eq_true c20
                        clear c20
                        by_cases c21 : x10_2 < (x9_2.length : Int)
                        · rw [if_pos c21] at H
                          have c21b0 : decide (x10_2 < (x9_2.length : Int)) = true := decide_eq_true c21
                          clear c21
                          obtain ⟨y116, hy116⟩ : ∃ y_ : List ByteArray, y_ = (x9_2.set (x10_2 : Int).toNat x0_2) := ⟨_, rfl⟩
                          replace H : (if 0 ≤ (wrap64 (x10_2 + 1)) then (if (wrap64 (x10_2 + 1)) ≤ (x9_2.length : Int) then (some (y116.take ((wrap64 (x10_2 + 1)) : Int).toNat)) else (none)) else (none)) = some r := by first | (rw [hy116]; with_reducible exact H) | (have H2_ := (Option.bind_some _ _).symm.trans H; rw [hy116]; with_reducible exact H2_) | (have H2_ := (Option.bind_some _ _).symm.trans H; with_reducible exact H2_) | with_reducible exact H | (rw [hy116]; exact H) | exact H
                          have Ny116 := Aside0.mk hy116
                          clear hy116
                          obtain ⟨ji23, hji23⟩ : ∃ j_ : Int, (wrap64 (x10_2 + 1)) = j_ := ⟨_, rfl⟩
                          replace H : (if 0 ≤ (ji23) then (if (ji23) ≤ (x9_2.length : Int) then (some (y116.take ((ji23) : Int).toNat)) else (none)) else (none)) = some r := by first | (rw [hji23] at H; exact H) | (simp only [hji23] at H ⊢; exact H)
                          (try rw [hji23] at A18)
                          have hji23w : (IntKind.i64.wrap (x10_2 + 1)) = ji23 := (i64_w _).trans hji23
                          by_cases c24 : 0 ≤ (ji23)
                          · rw [if_pos c24] at H
                            have c24b0 := eq_true c24
                            have c24b1 : decide (0 ≤ (ji23)) = true := decide_eq_true c24
                            clear c24
                            by_cases c25 : (ji23) ≤ (x9_2.length : Int)
                            · rw [if_pos c25] at H
                              have c25b0 := eq_true c25
                              have c25b1 : decide ((ji23) ≤ (x9_2.length : Int)) = true := decide_eq_true c25
                              clear c25
                              obtain ⟨y117, hy117⟩ : ∃ y_ : List ByteArray, y_ = (y116.take ((ji23) : Int).toNat) := ⟨_, rfl⟩
                              replace H : (some y117) = some r := by first | (rw [hy117]; with_reducible exact H) | (have H2_ := (Option.bind_some _ _).symm.trans H; rw [hy117]; with_reducible exact H2_) | (have H2_ := (Option.bind_some _ _).symm.trans H; with_reducible exact H2_) | with_reducible exact H | (rw [hy117]; exact H) | exact H
                              have Ny117 := Aside0.mk hy117
                              clear hy117
                              obtain rfl := Option.some.inj H
                              go_wp2_with (first | ((with_reducible refine gate_callee (f := 49) rfl ?_); refine goesL_ (some 39) rfl rfl Tryd.func49 (by kernel_rfl) rfl #[.string x0_2, .string a1] rfl (by (try simp only [List.map_toArray, List.map_cons, List.map_nil]); first | done | rfl | (simp only [List.length_drop, List.length_take]; rfl)) ?_; (with_reducible refine (strings_Index.calls x0_2 a1 t115 _ A18.out).mono ?_); rintro e w' ⟨rfl, ⟨nd, rfl⟩⟩; refine ⟨_, rfl, ?_⟩; (try (rw [drewN_self wr]; generalize hq_ : World.drewN wr _ = wr; have n0_ : Aside0 (Kd.R Kd.string 9 wr w.heap.size (fun _ => True) v113 x9_2) := ⟨by rw [← hq_]; exact (by (with_reducible repeat (first | apply Kd.R_alloc | apply Kd.R_drewN | apply Kd.R_drew)); exact HO_9.out)⟩; have n1_ : Aside0 (Below w.heap.size w wr) := ⟨by rw [← hq_]; exact (by repeat (first | (with_reducible first | exact HB.out | apply below_alloc | apply pw_below_drewN | apply below_drew1) | exact HB.out))⟩; clear HO_9 HB hq_; have HO_9 := n0_; have HB := n1_; clear n0_ n1_)); have p22 : 0 ≤ (x10_2 : Int) := of_decide_eq_true (by first | (with_reducible assumption) | assumption); have q22 : (x10_2 : Int) < ((x9_2.length : Int) : Int) := of_decide_eq_true (by first | (with_reducible assumption) | assumption); obtain ⟨go22, co22, eo22, gb22, gl22, cl22, HG22⟩ := Kd.R_form HO_9.out (by omega); (first | cases eo22 | (injection eo22 with ea_ en_ ec_; (first | subst ea_ | (injection ea_ with ea_; subst ea_)); subst ec_; clear en_)); have GB22 := Aside0.mk gb22; have GG22 := Aside0.mk HG22; clear gb22 gl22 HG22; obtain ⟨hx22_0, hf22_0⟩ := Kd.R_celln (⟨#[]⟩ : ByteArray) HO_9.out (x10_2 : Int) p22 q22; replace p22 := eq_true p22; replace q22 := eq_true q22; obtain ⟨hy26_, hz26_⟩ := Kd.R_celln (⟨#[]⟩ : ByteArray) HO_9.out (x10_2 : Int) (of_decide_eq_true (by first | (with_reducible assumption) | assumption)) (of_decide_eq_true (by first | (with_reducible assumption) | assumption)); have HP26 := Kd.R_putg HO_9.out (x10_2 : Int) x0_2) | ((with_reducible refine gate_store (t := 9) (p := 61) rfl ?_); refine store_event (t := 9) (p := 61) (v := ?vo_w27) (w1 := (wr.setCell ⟨go22, (x10_2 : Int).toNat, none⟩ (.string x0_2))) ?hg ?ho ?hn ?hr ?_; (case ho => rfl); (case hg => rfl); (case hn => rfl); (case hr => first | (go_simp; done) | (go_simp; rfl)); intro w27 hw; have hg : wr.grownBy w27 (some go22) := (by rw [hw]; exact HP26.2); (try (have ln_w27 := congrArg List.length Ny116.out; rw [List.length_set] at ln_w27)); have hp_ : Kd.R Kd.string 9 w27 w.heap.size (fun _ => True) (.slice (some ⟨go22, 0, none⟩) x9_2.length co22) y116 := (by rw [hw, Ny116.out]; exact HP26.1); clear HP26; have n0_ := Aside0.mk (hp_); have n1_ := Aside0.mk ((by rw [hw]; exact below_set (HB.out) GB22.out : Below w.heap.size w w27)); clear HO_9; clear HB; have HO_9 := n0_; have HB := n1_; clear n0_ n1_; clear hg hw hp_; have q28 : ((ji23) : Int) ≤ ((x9_2.length : Int) : Int) := of_decide_eq_true (by first | (with_reducible assumption) | assumption); obtain ⟨i028, hi028, _, hsz28, _⟩ := info_parts info9; have hcut28 := cut_to (P := Tryd.prog) 24 9 .i64 Tryd.underlying24 hi028 (some ⟨go22, 0, none⟩) x9_2.length co22 (ji23) (of_decide_eq_true (by first | (with_reducible assumption) | assumption)) q28 (Kd.R_reads' HO_9.out).2.1; have hr28 := Kd.R_take (m := ((ji23) : Int).toNat) HO_9.out (by omega); have hy28 : y117.length = ((ji23) : Int).toNat := (by rw [Ny117.out, List.length_take]; omega); rw [← Ny117.out] at hr28; rw [← hy28] at hr28 hcut28; clear hy28 hi028 hsz28 HO_9; have HO119 := Aside0.mk hr28; clear hr28; replace q28 := eq_true q28))
                              go_ret
                              exact ⟨_, by first | rfl | (simp [errW_none, errW_some] <;> rfl) | (simp only [← hji12, ← hji23]; first | rfl | (simp [errW_none, errW_some] <;> rfl)) | (simp [*, errW_none, errW_some] <;> rfl), by (with_reducible repeat (first | apply Kd.R_alloc | apply Kd.R_drewN | apply Kd.R_drew)); exact HO119.out, by repeat (first | (with_reducible first | exact HB.out | apply below_alloc | apply pw_below_drewN | apply below_drew1) | exact HB.out)⟩
                            · rw [if_neg c25] at H
                              exact absurd H (by simp)
                          · rw [if_neg c24] at H
                            exact absurd H (by simp)
                        · rw [if_neg c21] at H
                          exact absurd H (by simp)
                      · rw [if_neg c20] at H
                        exact absurd H (by simp)
                    · rw [if_neg c19] at H
                      have c19b0 : decide (t115 < 0) = false := decide_eq_false c19
                      clear c19
                      obtain ⟨ji29, hji29⟩ : ∃ j_ : Int, (wrap64 (t115 + a2)) = j_ := ⟨_, rfl⟩
                      replace H : (if 0 ≤ (ji29) then (if (ji29) ≤ (x0_2.size : Int) then (if 0 ≤ x10_2 then (if x10_2 < (x9_2.length : Int) then (if 0 ≤ (wrap64 (t115 + (a1.size : Int))) then (if (wrap64 (t115 + (a1.size : Int))) ≤ (x0_2.size : Int) then (strings_genSplit.l0 k2 (x0_2.extract ((wrap64 (t115 + (a1.size : Int))) : Int).toNat x0_2.size) a1 a2 (wrap64 ((ji12) - 1)) (x9_2.set (x10_2 : Int).toNat (x0_2.extract 0 ((ji29) : Int).toNat)) (wrap64 (x10_2 + 1))) else (none)) else (none)) else (none)) else (none)) else (none)) else (none)) = some r := by first | (rw [hji29] at H; exact H) | (simp only [hji29] at H ⊢; exact H)
                      (try rw [hji29] at A18)
                      have hji29w : (IntKind.i64.wrap (t115 + a2)) = ji29 := (i64_w _).trans hji29
                      by_cases c30 : 0 ≤ (ji29)
                      · rw [if_pos c30] at H
                        have c30b0 := eq_true c30
                        have c30b1 : decide (0 ≤ (ji29)) = true := decide_eq_true c30
                        clear c30
                        by_cases c31 : (ji29) ≤ (x0_2.size : Int)
                        · rw [if_pos c31] at H
                          have c31b0 := eq_true c31
                          have c31b1 : decide ((ji29) ≤ (x0_2.size : Int)) = true := decide_eq_true c31
                          clear c31
                          by_cases c32 : 0 ≤ x10_2
                          · rw [if_pos c32] at H
                            have c32b0 : decide (0 ≤ x10_2) = true := decide_eq_true c32
                            clear c32
                            by_cases c33 : x10_2 < (x9_2.length : Int)
                            · rw [if_pos c33] at H
                              have c33b0 : decide (x10_2 < (x9_2.length : Int)) = true := decide_eq_true c33
                              clear c33
                              obtain ⟨y120, hy120⟩ : ∃ y_ : List ByteArray, y_ = (x9_2.set (x10_2 : Int).toNat (x0_2.extract 0 ((ji29) : Int).toNat)) := ⟨_, rfl⟩
                              replace H : (if 0 ≤ (wrap64 (t115 + (a1.size : Int))) then (if (wrap64 (t115 + (a1.size : Int))) ≤ (x0_2.size : Int) then (strings_genSplit.l0 k2 (x0_2.extract ((wrap64 (t115 + (a1.size : Int))) : Int).toNat x0_2.size) a1 a2 (wrap64 ((ji12) - 1)) y120 (wrap64 (x10_2 + 1))) else (none)) else (none)) = some r := by first | (rw [hy120]; with_reducible exact H) | (have H2_ := (Option.bind_some _ _).symm.trans H; rw [hy120]; with_reducible exact H2_) | (have H2_ := (Option.bind_some _ _).symm.trans H; with_reducible exact H2_) | with_reducible exact H | (rw [hy120]; exact H) | exact H
                              have Ny120 := Aside0.mk hy120
                              clear hy120
                              obtain ⟨ji35, hji35⟩ : ∃ j_ : Int, (wrap64 (t115 + (a1.size : Int))) = j_ := ⟨_, rfl⟩
                              replace H : (if 0 ≤ (ji35) then (if (ji35) ≤ (x0_2.size : Int) then (strings_genSplit.l0 k2 (x0_2.extract ((ji35) : Int).toNat x0_2.size) a1 a2 (wrap64 ((ji12) - 1)) y120 (wrap64 (x10_2 + 1))) else (none)) else (none)) = some r := by first | (rw [hji35] at H; exact H) | (simp only [hji35] at H ⊢; exact H)
                              (try rw [hji35] at A18)
                              have hji35w : (IntKind.i64.wrap (t115 + (a1.size : Int))) = ji35 := (i64_w _).trans hji35
                              by_cases c36 : 0 ≤ (ji35)
                              · rw [if_pos c36] at H
                                have c36b0 := eq_true c36
                                have c36b1 : decide (0 ≤ (ji35)) = true := decide_eq_true c36
                                clear c36
                                by_cases c37 : (ji35) ≤ (x0_2.size : Int)
                                · rw [if_pos c37] at H
                                  have c37b0 := eq_true c37
                                  have c37b1 : decide ((ji35) ≤ (x0_2.size : Int)) = true := decide_eq_true c37
                                  clear c37
                                  have H' := Aside0.mk H
                                  clear H
                                  go_wp2_with (first | ((with_reducible refine gate_callee (f := 49) rfl ?_); refine goesL_ (some 39) rfl rfl Tryd.func49 (by kernel_rfl) rfl #[.string x0_2, .string a1] rfl (by (try simp only [List.map_toArray, List.map_cons, List.map_nil]); first | done | rfl | (simp only [List.length_drop, List.length_take]; rfl)) ?_; (with_reducible refine (strings_Index.calls x0_2 a1 t115 _ A18.out).mono ?_); rintro e w' ⟨rfl, ⟨nd, rfl⟩⟩; refine ⟨_, rfl, ?_⟩; (try (rw [drewN_self wr]; generalize hq_ : World.drewN wr _ = wr; have n0_ : Aside0 (Kd.R Kd.string 9 wr w.heap.size (fun _ => True) v113 x9_2) := ⟨by rw [← hq_]; exact (by (with_reducible repeat (first | apply Kd.R_alloc | apply Kd.R_drewN | apply Kd.R_drew)); exact HO_9.out)⟩; have n1_ : Aside0 (Below w.heap.size w wr) := ⟨by rw [← hq_]; exact (by repeat (first | (with_reducible first | exact HB.out | apply below_alloc | apply pw_below_drewN | apply below_drew1) | exact HB.out))⟩; clear HO_9 HB hq_; have HO_9 := n0_; have HB := n1_; clear n0_ n1_)); have p34 : 0 ≤ (x10_2 : Int) := of_decide_eq_true (by first | (with_reducible assumption) | assumption); have q34 : (x10_2 : Int) < ((x9_2.length : Int) : Int) := of_decide_eq_true (by first | (with_reducible assumption) | assumption); obtain ⟨go34, co34, eo34, gb34, gl34, cl34, HG34⟩ := Kd.R_form HO_9.out (by omega); (first | cases eo34 | (injection eo34 with ea_ en_ ec_; (first | subst ea_ | (injection ea_ with ea_; subst ea_)); subst ec_; clear en_)); have GB34 := Aside0.mk gb34; have GG34 := Aside0.mk HG34; clear gb34 gl34 HG34; obtain ⟨hx34_0, hf34_0⟩ := Kd.R_celln (⟨#[]⟩ : ByteArray) HO_9.out (x10_2 : Int) p34 q34; replace p34 := eq_true p34; replace q34 := eq_true q34; obtain ⟨hy38_, hz38_⟩ := Kd.R_celln (⟨#[]⟩ : ByteArray) HO_9.out (x10_2 : Int) (of_decide_eq_true (by first | (with_reducible assumption) | assumption)) (of_decide_eq_true (by first | (with_reducible assumption) | assumption)); have HP38 := Kd.R_putg HO_9.out (x10_2 : Int) (x0_2.extract 0 ((ji29) : Int).toNat)) | ((with_reducible refine gate_store (t := 9) (p := 49) rfl ?_); refine store_event (t := 9) (p := 49) (v := ?vo_w39) (w1 := (wr.setCell ⟨go34, (x10_2 : Int).toNat, none⟩ (.string (x0_2.extract 0 ((ji29) : Int).toNat)))) ?hg ?ho ?hn ?hr ?_; (case ho => rfl); (case hg => rfl); (case hn => rfl); (case hr => first | (go_simp; done) | (go_simp; rfl)); intro w39 hw; have hg : wr.grownBy w39 (some go34) := (by rw [hw]; exact HP38.2); (try (have ln_w39 := congrArg List.length Ny120.out; rw [List.length_set] at ln_w39)); have hp_ : Kd.R Kd.string 9 w39 w.heap.size (fun _ => True) (.slice (some ⟨go34, 0, none⟩) x9_2.length co34) y120 := (by rw [hw, Ny120.out]; exact HP38.1); clear HP38; have n0_ := Aside0.mk (hp_); have n1_ := Aside0.mk ((by rw [hw]; exact below_set (HB.out) GB34.out : Below w.heap.size w w39)); clear HO_9; clear HB; have HO_9 := n0_; have HB := n1_; clear n0_ n1_; clear hg hw hp_))
                                  go_roundg k2
                                  case measure => have := HJ8.out; have := HK2.out; omega
                                  case rel => exact ⟨(x0_2.extract ((ji35) : Int).toNat x0_2.size), (y120), (wrap64 (x10_2 + 1)), (by first | rfl | (simp; done) | (simp only [← hji35] <;> (first | rfl | simp)) | (simp [*]; done)), (by first | rfl | (simp; done) | (simp [*]; done) | exact isEmpty_bne _), H', ⟨by have := HJ8.out; have := HK2.out; omega⟩, ⟨by (with_reducible repeat (first | apply Kd.R_alloc | apply Kd.R_drewN | apply Kd.R_drew)); exact HO_9.out⟩, ⟨by repeat (first | (with_reducible first | exact HB.out | apply below_alloc | apply pw_below_drewN | apply below_drew1) | exact HB.out)⟩⟩
                                · rw [if_neg c37] at H
                                  exact absurd H (by simp)
                              · rw [if_neg c36] at H
                                exact absurd H (by simp)
                            · rw [if_neg c33] at H
                              exact absurd H (by simp)
                          · rw [if_neg c32] at H
                            exact absurd H (by simp)
                        · rw [if_neg c31] at H
                          exact absurd H (by simp)
                      · rw [if_neg c30] at H
                        exact absurd H (by simp)
                  · rw [if_neg c17] at H
                    have c17b0 : decide (x10_2 < (wrap64 ((ji12) - 1))) = false := decide_eq_false c17
                    clear c17
                    by_cases c40 : 0 ≤ x10_2
                    · rw [if_pos c40] at H
                      have c40b0 : decide (0 ≤ x10_2) = true := decide_eq_true c40
                      clear c40
                      by_cases c41 : x10_2 < (x9_2.length : Int)
                      · rw [if_pos c41] at H
                        have c41b0 : decide (x10_2 < (x9_2.length : Int)) = true := decide_eq_true c41
                        clear c41
                        obtain ⟨y121, hy121⟩ : ∃ y_ : List ByteArray, y_ = (x9_2.set (x10_2 : Int).toNat x0_2) := ⟨_, rfl⟩
                        replace H : (if 0 ≤ (wrap64 (x10_2 + 1)) then (if (wrap64 (x10_2 + 1)) ≤ (x9_2.length : Int) then (some (y121.take ((wrap64 (x10_2 + 1)) : Int).toNat)) else (none)) else (none)) = some r := by first | (rw [hy121]; with_reducible exact H) | (have H2_ := (Option.bind_some _ _).symm.trans H; rw [hy121]; with_reducible exact H2_) | (have H2_ := (Option.bind_some _ _).symm.trans H; with_reducible exact H2_) | with_reducible exact H | (rw [hy121]; exact H) | exact H
                        have Ny121 := Aside0.mk hy121
                        clear hy121
                        obtain ⟨ji43, hji43⟩ : ∃ j_ : Int, (wrap64 (x10_2 + 1)) = j_ := ⟨_, rfl⟩
                        replace H : (if 0 ≤ (ji43) then (if (ji43) ≤ (x9_2.length : Int) then (some (y121.take ((ji43) : Int).toNat)) else (none)) else (none)) = some r := by first | (rw [hji43] at H; exact H) | (simp only [hji43] at H ⊢; exact H)
                        have hji43w : (IntKind.i64.wrap (x10_2 + 1)) = ji43 := (i64_w _).trans hji43
                        by_cases c44 : 0 ≤ (ji43)
                        · rw [if_pos c44] at H
                          have c44b0 := eq_true c44
                          have c44b1 : decide (0 ≤ (ji43)) = true := decide_eq_true c44
                          clear c44
                          by_cases c45 : (ji43) ≤ (x9_2.length : Int)
                          · rw [if_pos c45] at H
                            have c45b0 := eq_true c45
                            have c45b1 : decide ((ji43) ≤ (x9_2.length : Int)) = true := decide_eq_true c45
                            clear c45
                            obtain ⟨y122, hy122⟩ : ∃ y_ : List ByteArray, y_ = (y121.take ((ji43) : Int).toNat) := ⟨_, rfl⟩
                            replace H : (some y122) = some r := by first | (rw [hy122]; with_reducible exact H) | (have H2_ := (Option.bind_some _ _).symm.trans H; rw [hy122]; with_reducible exact H2_) | (have H2_ := (Option.bind_some _ _).symm.trans H; with_reducible exact H2_) | with_reducible exact H | (rw [hy122]; exact H) | exact H
                            have Ny122 := Aside0.mk hy122
                            clear hy122
                            obtain rfl := Option.some.inj H
                            have p42 : 0 ≤ (x10_2 : Int) := of_decide_eq_true (by first | (with_reducible assumption) | assumption)
                            have q42 : (x10_2 : Int) < ((x9_2.length : Int) : Int) := of_decide_eq_true (by first | (with_reducible assumption) | assumption)
                            obtain ⟨go42, co42, eo42, gb42, gl42, cl42, HG42⟩ := Kd.R_form HO_9.out (by omega)
                            (first | cases eo42 | (injection eo42 with ea_ en_ ec_; (first | subst ea_ | (injection ea_ with ea_; subst ea_)); subst ec_; clear en_))
                            have GB42 := Aside0.mk gb42
                            have GG42 := Aside0.mk HG42
                            clear gb42 gl42 HG42
                            obtain ⟨hx42_0, hf42_0⟩ := Kd.R_celln (⟨#[]⟩ : ByteArray) HO_9.out (x10_2 : Int) p42 q42
                            replace p42 := eq_true p42
                            replace q42 := eq_true q42
                            have HP46 := Kd.R_putg HO_9.out (x10_2 : Int) x0_2
                            go_wp2_with (first | ((with_reducible refine gate_store (t := 9) (p := 61) rfl ?_); refine store_event (t := 9) (p := 61) (v := ?vo_w47) (w1 := (wr.setCell ⟨go42, (x10_2 : Int).toNat, none⟩ (.string x0_2))) ?hg ?ho ?hn ?hr ?_; (case ho => rfl); (case hg => rfl); (case hn => rfl); (case hr => first | (go_simp; done) | (go_simp; rfl)); intro w47 hw; have hg : wr.grownBy w47 (some go42) := (by rw [hw]; exact HP46.2); (try (have ln_w47 := congrArg List.length Ny121.out; rw [List.length_set] at ln_w47)); have hp_ : Kd.R Kd.string 9 w47 w.heap.size (fun _ => True) (.slice (some ⟨go42, 0, none⟩) x9_2.length co42) y121 := (by rw [hw, Ny121.out]; exact HP46.1); clear HP46; have n0_ := Aside0.mk (hp_); have n1_ := Aside0.mk ((by rw [hw]; exact below_set (HB.out) GB42.out : Below w.heap.size w w47)); clear HO_9; clear HB; have HO_9 := n0_; have HB := n1_; clear n0_ n1_; clear hg hw hp_; have q48 : ((ji43) : Int) ≤ ((x9_2.length : Int) : Int) := of_decide_eq_true (by first | (with_reducible assumption) | assumption); obtain ⟨i048, hi048, _, hsz48, _⟩ := info_parts info9; have hcut48 := cut_to (P := Tryd.prog) 24 9 .i64 Tryd.underlying24 hi048 (some ⟨go42, 0, none⟩) x9_2.length co42 (ji43) (of_decide_eq_true (by first | (with_reducible assumption) | assumption)) q48 (Kd.R_reads' HO_9.out).2.1; have hr48 := Kd.R_take (m := ((ji43) : Int).toNat) HO_9.out (by omega); have hy48 : y122.length = ((ji43) : Int).toNat := (by rw [Ny122.out, List.length_take]; omega); rw [← Ny122.out] at hr48; rw [← hy48] at hr48 hcut48; clear hy48 hi048 hsz48 HO_9; have HO124 := Aside0.mk hr48; clear hr48; replace q48 := eq_true q48))
                            go_ret
                            exact ⟨_, by first | rfl | (simp [errW_none, errW_some] <;> rfl) | (simp only [← hji12, ← hji43]; first | rfl | (simp [errW_none, errW_some] <;> rfl)) | (simp [*, errW_none, errW_some] <;> rfl), by (with_reducible repeat (first | apply Kd.R_alloc | apply Kd.R_drewN | apply Kd.R_drew)); exact HO124.out, by repeat (first | (with_reducible first | exact HB.out | apply below_alloc | apply pw_below_drewN | apply below_drew1) | exact HB.out)⟩
                          · rw [if_neg c45] at H
                            exact absurd H (by simp)
                        · rw [if_neg c44] at H
                          exact absurd H (by simp)
                      · rw [if_neg c41] at H
                        exact absurd H (by simp)
                    · rw [if_neg c40] at H
                      exact absurd H (by simp)
            · rw [if_neg c14] at H
              exact absurd H (by simp)
          · rw [if_neg c13] at H
            exact absurd H (by simp)

/-! ### strings_Split: function 32 -/
def strings_Split.f (k : Nat) (a0 : ByteArray) (a1 : ByteArray) : Option (List ByteArray) := (strings_genSplit.f k a0 a1 0 (-1)).bind fun t125 => (some t125)
theorem strings_Split.mono : ∀ a0 a1 k, LeO (strings_Split.f k a0 a1) (strings_Split.f (k + 1) a0 a1) := by
  intro a0 a1 k
  unfold strings_Split.f
  repeat' first
      | (with_reducible exact strings_genSplit.mono _ _ _ _ _)
      | (with_reducible exact LeO.refl _)
      | (with_reducible exact LeO.none _)
      | (with_reducible refine LeO.ite ?_ ?_)
      | (with_reducible refine LeO.bind ?_ (fun _ => ?_))
      | exact strings_genSplit.mono _ _ _ _ _
      | exact LeO.none _
      | refine LeO.ite ?_ ?_
      | refine LeO.bind ?_ (fun _ => ?_)
set_option maxHeartbeats 8000000 in
set_option maxRecDepth 100000 in
theorem strings_Split.calls (k : Nat) (a0 : ByteArray) (a1 : ByteArray) (r : List ByteArray) (w : World) (h : strings_Split.f k a0 a1 = some r) :
    Calls Tryd.prog 32 #[.string a0, .string a1] w fun e w' => ∃ v0_ : Value, e = .returned (v0_) ∧ Kd.R Kd.string 9 w' w.heap.size (fun _ => True) v0_ r ∧ Below w.heap.size w w' := by
  have HB := Aside0.mk (Below.refl w.heap.size w)
  have H : ((strings_genSplit.f k a0 a1 0 (-1)).bind fun t125 => (some t125)) = some r := h
  clear h
  replace H := Option.bind_eq_some_iff.mp H
  obtain ⟨t125, A30, H⟩ := H
  replace H : (some t125) = some r := H
  have A3 := Aside0.mk A30
  clear A30
  obtain rfl := Option.some.inj H
  go_enter Tryd.func32, Tryd.ntmps32
  go_wp2_with (first | ((with_reducible refine gate_callee (f := 38) rfl ?_); refine goesL_ (some 7) rfl rfl Tryd.func38 (by kernel_rfl) rfl #[.string a0, .string a1, .int .i64 0, .int .i64 (-1)] rfl (by (try simp only [List.map_toArray, List.map_cons, List.map_nil]); first | done | rfl | (simp only [List.length_drop, List.length_take]; rfl)) ?_; (with_reducible refine (strings_genSplit.calls k a0 a1 0 (-1) t125 _ A3.out).mono ?_); rintro e w4 ⟨v126, rfl, ho0, hb⟩; refine ⟨_, rfl, ?_⟩; have n0_ := Aside0.mk (Kd.R_lower ho0 (below_size (by repeat (first | (with_reducible first | exact HB.out | apply below_alloc | apply pw_below_drewN | apply below_drew1) | exact HB.out)))); have n1_ := Aside0.mk (below_step (by repeat (first | (with_reducible first | exact HB.out | apply below_alloc | apply pw_below_drewN | apply below_drew1) | exact HB.out)) hb); clear HB; have HO127 := n0_; have HB := n1_; clear n0_ n1_; (try clear hb); (try clear hb2); (try clear hk); (try clear hi); (try clear ho0)))
  go_ret
  exact ⟨_, by first | rfl | (simp [errW_none, errW_some] <;> rfl) | (simp [*, errW_none, errW_some] <;> rfl), by (with_reducible repeat (first | apply Kd.R_alloc | apply Kd.R_drewN | apply Kd.R_drew)); exact HO127.out, by repeat (first | (with_reducible first | exact HB.out | apply below_alloc | apply pw_below_drewN | apply below_drew1) | exact HB.out)⟩

-- GIVEN rounds=0 making=1 bld
/-! ### quote.Word: by hand: a builder, beside a conversion's row -/
def quote_Word.f (a0 : ByteArray) : Option (ByteArray) := if a0.size ≤ 40000000000000 then some (strOfNums (wordL (bytesOf a0))) else none
theorem quote_Word.plain (c : Int) (w : World) (h0 : 0 ≤ c) (h1 : c ≤ 255) : Calls Tryd.prog 39 #[.int .u8 c] w fun e w' => e = .returned (.bool (plainB c)) ∧ w = w' := by
  by_cases c1 : 32 < c
  · by_cases c2 : c < 127
    · by_cases c3 : c = 37
      · have hr : plainB c = false := by rw [c3]; rfl
        have e3 : (c != 37) = false := by rw [c3]; rfl
        have HR := Lib.hid hr
        clear hr c3
        go_enter Tryd.func39, Tryd.ntmps39
        go_wp2
        go_ret
        exact ⟨ret_bool HR.out.symm, rfl⟩
      · have e3 : (c != 37) = true := bne_iff_ne.2 c3
        have hr : plainB c = true := by simp [plainB, c1, c2, c3]
        have HR := Lib.hid hr
        clear hr c3
        go_enter Tryd.func39, Tryd.ntmps39
        go_wp2
        go_ret
        exact ⟨ret_bool HR.out.symm, rfl⟩
    · have hr : plainB c = false := by simp [plainB, c1, c2]
      have HR := Lib.hid hr
      have e2 : 127 ≤ c := by omega
      clear hr c2
      go_enter Tryd.func39, Tryd.ntmps39
      go_wp2
      go_ret
      exact ⟨ret_bool HR.out.symm, rfl⟩
  · have hr : plainB c = false := by simp [plainB, c1]
    have HR := Lib.hid hr
    have e2 : c ≤ 32 := by omega
    clear hr c1
    go_enter Tryd.func39, Tryd.ntmps39
    go_wp2
    go_ret
    exact ⟨ret_bool HR.out.symm, rfl⟩
theorem quote_Word.digit (n : Int) (w : World) (h0 : 0 ≤ n) (h1 : n < 16) : Calls Tryd.prog 44 #[.int .u8 n] w fun e w' => e = .returned (.int .u8 (digU n)) ∧ w = w' := by
  by_cases c1 : n < 10
  · have hr : digU n = 48 + n := if_pos c1
    have HR := Lib.hid hr
    clear hr
    go_enter Tryd.func44, Tryd.ntmps44
    go_wp2
    go_ret
    exact ⟨ret_u8 HR.out.symm, rfl⟩
  · have hr : digU n = 55 + n := if_neg c1
    have HR := Lib.hid hr
    have e2 : 10 ≤ n := by omega
    clear hr c1
    go_enter Tryd.func44, Tryd.ntmps44
    go_wp2
    go_ret
    refine ⟨?_, rfl⟩
    exact ret_u8 (by rw [HR.out]; omega)
set_option maxHeartbeats 3200000 in
theorem quote_Word.calls (a0 : ByteArray) (r : ByteArray) (w : World) (h : quote_Word.f a0 = some r) :
    Calls Tryd.prog 35 #[.string a0] w fun e w' => e = .returned (.string r) ∧ Below w.heap.size w w' := by
  unfold quote_Word.f at h
  by_cases hs : a0.size ≤ 40000000000000
  case neg => rw [if_neg hs] at h; cases h
  rw [if_pos hs] at h
  by_cases hz : a0.size = 0
  · have hr : r = strOfNums [37] := by
      rw [← Option.some.inj h]
      unfold wordL
      rw [if_pos (List.eq_nil_of_length_eq_zero (by rw [bytesOf_length]; exact hz))]
    have HR := Lib.hid hr
    have e1 := toList_nil hz
    clear hz h hr
    go_enter Tryd.func35, Tryd.ntmps35
    go_wp2
    go_ret
    exact ⟨by rw [HR.out]; rfl, Below.refl _ _⟩
  have hr : Hid (strOfNums ((bytesOf a0).flatMap encB) = r) := Lib.hid (by
    rw [← Option.some.inj h]
    unfold wordL
    rw [if_neg (fun e => hz (by rw [← bytesOf_length, e]; rfl))])
  obtain ⟨e1, e2⟩ := toList_ne hz
  have hm : a0.size ≤ 9223372036854775807 := Nat.le_trans hs (by decide)
  clear h hz
  have kc := fun (w : World) => Lib.run_convert_string_bytes (P := Tryd.prog) w 9 57 5 a0 Tryd.underlying9 Tryd.underlying57 Tryd.underlying5
  go_enter Tryd.func35, Tryd.ntmps35
  go_wp2
  have hI0 := bld_new 70 5 w
  generalize hW : w.alloc (.cells #[.pointer none, .slice none 0 0] 70) = W at hI0
  have hsz : W.heap.size = w.heap.size + 1 := by rw [← hW]; simp
  have hBW : Below w.heap.size w W := by rw [← hW]; exact (Below.refl w.heap.size w).alloc (Nat.le_refl _) _
  have hI := bld_keep (w' := Lib.bytesWorld W 5 a0) hI0 (fun k hk => Lib.bytesWorld_at_old W 5 a0 k hk)
  have hB1 : Below w.heap.size w (Lib.bytesWorld W 5 a0) := below_then hBW (by omega) (below_bytes W 5 a0)
  have hrow := Lib.bytesWorld_at_new W 5 a0
  rw [hsz] at hrow
  have hcs := bytesCells_get W 5 a0
  have hz1 := Lib.bytesWorld_size W 5 a0
  have HI := Lib.hid hI
  have HB1 := Lib.hid hB1
  have HROW := Lib.hid hrow
  have HCS := Lib.hid hcs
  have HSZ : Hid (w.heap.size + 1 < (Lib.bytesWorld W 5 a0).heap.size) := Lib.hid (by omega)
  clear hI hB1 hrow hcs hz1 hI0 hBW hsz hW
  generalize Lib.bytesCells W 5 a0 = cs at HROW HCS
  go_loopw [11, 5] (fun i _ wr => ∃ k : Nat, k ≤ a0.size ∧ i = .int .i64 k ∧ Hid (Lib.IsBuilder 70 5 w.heap.size w.heap.size (nums .u8 (((bytesOf a0).take k).flatMap encB)) wr) ∧ Hid (wr.heap[w.heap.size + 1]? = some (.cells cs 5 (cs.size, cs.size + 1))) ∧ Hid (Below w.heap.size w wr)) (fun i _ _ => a0.size - (intOf i).toNat)
  case atStart => exact ⟨0, Nat.zero_le _, rfl, HI, HROW, HB1⟩
  case round =>
    obtain ⟨k, hk, rfl, hbld, hrow, hbel⟩ := hrel
    have hBw := hbel.out.size
    have hlen : Hid ((nums .u8 (((bytesOf a0).take k).flatMap encB)).length ≤ 120000000000000) := Lib.hid (by
      have h1 := flatMap_len ((bytesOf a0).take k)
      have h2 : ((bytesOf a0).take k).length ≤ a0.size := by
        rw [List.length_take, bytesOf_length]
        omega
      show (List.map _ _).length ≤ _
      rw [List.length_map]
      omega)
    by_cases hlt : k < a0.size
    · have hc : wr.cell? ⟨w.heap.size + 1, k, none⟩ = some (.int .u8 (bt a0 k)) := by
        rw [Lib.cell_of_heap hrow.out]
        exact HCS.out k hlt
      have hb := bt_range a0 k
      have HT := Lib.hid (take_flat a0 k hlt)
      generalize hg : bt a0 k = c at hc hb HT
      clear hg
      have hne : w.heap.size + 1 ≠ w.heap.size := by omega
      have hnz : (cs.size, cs.size + 1) ≠ ((0 : Nat), (0 : Nat)) := by simp
      have HNE := Lib.hid hne
      have HNZ := Lib.hid hnz
      clear hne hnz
      cases hp : plainB c
      · have HP := Lib.hid (encB_no hp)
        have g1 : 0 ≤ c / 16 ∧ c / 16 < 16 := by omega
        have g2 : 0 ≤ c % 16 ∧ c % 16 < 16 := by omega
        go_wp2_with (go_at_call 39; refine (quote_Word.plain c _ hb.1 hb.2).mono ?_; rintro e w' ⟨rfl, rfl⟩)
        refine (bld_byte _ _ _ _ _ hbld.out (by have := hlen.out; omega) hBw).mono ?_
        rintro e w1 ⟨rfl, hb1, hb2, hb3⟩
        have Hb1 := Lib.hid hb1
        have Hb2 := Lib.hid (hbel.out.trans hb2)
        have Hb3 := Lib.hid (hb3.bytes hrow.out HNE.out HNZ.out)
        have hB1 := Hb2.out.size
        clear hb1 hb2 hb3
        go_wp2_with (go_at_call 44; refine (quote_Word.digit _ _ g1.1 g1.2).mono ?_; rintro e w' ⟨rfl, rfl⟩)
        refine (bld_byte _ _ _ _ _ Hb1.out (by have := hlen.out; rw [List.length_append]; simp only [List.length_singleton]; omega) hB1).mono ?_
        rintro e w2 ⟨rfl, hb1, hb2, hb3⟩
        have Hc1 := Lib.hid hb1
        have Hc2 := Lib.hid (Hb2.out.trans hb2)
        have Hc3 := Lib.hid (hb3.bytes Hb3.out HNE.out HNZ.out)
        have hB2 := Hc2.out.size
        clear hb1 hb2 hb3
        go_wp2_with (go_at_call 44; refine (quote_Word.digit _ _ g2.1 g2.2).mono ?_; rintro e w' ⟨rfl, rfl⟩)
        refine (bld_byte _ _ _ _ _ Hc1.out (by have := hlen.out; rw [List.length_append, List.length_append]; simp only [List.length_singleton]; omega) hB2).mono ?_
        rintro e w3 ⟨rfl, hb1, hb2, hb3⟩
        have Hd1 := Lib.hid hb1
        have Hd2 := Lib.hid (Hc2.out.trans hb2)
        have Hd3 := Lib.hid (hb3.bytes Hc3.out HNE.out HNZ.out)
        clear hb1 hb2 hb3
        go_wp2
        go_roundw
        case rel => exact ⟨k + 1, by omega, by go_num, Lib.hid (by rw [HT.out, HP.out, nums_append]; have := Hd1.out; simpa [nums] using this), Hd3, Hd2⟩
        case measure => simp [intOf]; omega
      · have HP := Lib.hid (encB_yes hp)
        go_wp2_with (first | (go_at_call 39; refine (quote_Word.plain c _ hb.1 hb.2).mono ?_; rintro e w' ⟨rfl, rfl⟩) | (go_at_call 40; refine (bld_byte _ _ _ _ _ hbld.out (by have := hlen.out; omega) hBw).mono ?_; rintro e w1 ⟨rfl, hb1, hb2, hb3⟩))
        have Hb1 := Lib.hid hb1
        have Hb2 := Lib.hid (hbel.out.trans hb2)
        have Hb3 := Lib.hid (hb3.bytes hrow.out HNE.out HNZ.out)
        clear hb1 hb2 hb3
        go_roundw
        case rel => exact ⟨k + 1, by omega, by go_num, Lib.hid (by rw [HT.out, HP.out, nums_append]; exact Hb1.out), Hb3, Hb2⟩
        case measure => simp [intOf]; omega
    · go_wp2_with (go_at_call 42; refine (bld_text _ _ _ (flat_in a0 k) _ hbld.out hBw).mono ?_; rintro e w1 ⟨rfl, hb1⟩)
      go_ret
      refine ⟨ret_str ?_, hbel.out.trans hb1⟩
      rw [← hr.out, List.take_of_length_le (by rw [bytesOf_length]; omega)]

-- GIVEN rounds=0 making=1 bld needs=logbook/quote.Word
/-! ### quote.Read: by hand: a builder; its place goes on by one or three -/
def quote_Read.f (a0 : ByteArray) : Option (ByteArray × Bool) := if a0.size ≤ 40000000000000 then some (strOfNums (readL (bytesOf a0)).1, (readL (bytesOf a0)).2) else none
theorem ret_u8_bool {a b : Int} {p q : Bool} (h : a = b) (h2 : p = q) : Ending.returned (.tuple #[.int .u8 a, .bool p]) = .returned (.tuple #[.int .u8 b, .bool q]) := by rw [h, h2]
theorem quote_Read.value (c : Int) (w : World) (h0 : 0 ≤ c) (h1 : c ≤ 255) : Calls Tryd.prog 41 #[.int .u8 c] w fun e w' => e = .returned (.tuple #[.int .u8 (hexV c).1, .bool (hexV c).2]) ∧ w = w' := by
  by_cases c1 : 48 ≤ c ∧ c ≤ 57
  · have hr : hexV c = (c - 48, true) := if_pos c1
    rw [hr]
    obtain ⟨d1, d2⟩ := c1
    clear hr
    go_enter Tryd.func41, Tryd.ntmps41
    go_wp2
    go_ret2
    exact ⟨rfl, rfl⟩
  by_cases c2 : 65 ≤ c ∧ c ≤ 70
  · have hr : hexV c = (c - 55, true) := by
      unfold hexV
      rw [if_neg c1, if_pos c2]
    rw [hr]
    obtain ⟨d1, d2⟩ := c2
    have d3 : 57 < c := by omega
    have d4 : 48 ≤ c := by omega
    clear hr c1
    go_enter Tryd.func41, Tryd.ntmps41
    go_wp2
    go_ret2
    exact ⟨ret_u8_bool (by omega) rfl, rfl⟩
  · have hr : hexV c = (0, false) := by
      unfold hexV
      rw [if_neg c1, if_neg c2]
    rw [hr]
    have d : c < 48 ∨ (57 < c ∧ c < 65) ∨ 70 < c := by omega
    clear hr c1 c2
    rcases d with d | ⟨d, d'⟩ | d
    all_goals
      (try have d5 : 48 ≤ c := by omega)
      (try have d6 : 57 < c := by omega)
      (try have d7 : 65 ≤ c := by omega)
      (try have d8 : c < 65 := by omega)
      go_enter Tryd.func41, Tryd.ntmps41
      go_wp2
      go_ret2
      exact ⟨rfl, rfl⟩
theorem ret_str_bool {a b : ByteArray} {p q : Bool} (h : a = b) (h2 : p = q) : Ending.returned (.tuple #[.string a, .bool p]) = .returned (.tuple #[.string b, .bool q]) := by rw [h, h2]
set_option maxHeartbeats 6400000 in
set_option maxRecDepth 100000 in
theorem quote_Read.calls (a0 : ByteArray) (r1 : ByteArray) (r2 : Bool) (w : World) (h : quote_Read.f a0 = some (r1, r2)) :
    Calls Tryd.prog 33 #[.string a0] w fun e w' => e = .returned (.tuple #[.string r1, .bool r2]) ∧ Below w.heap.size w w' := by
  unfold quote_Read.f at h
  by_cases hs : a0.size ≤ 40000000000000
  case neg => rw [if_neg hs] at h; cases h
  rw [if_pos hs] at h
  injection h with h
  injection h with hr1 hr2
  by_cases hp : bytesOf a0 = [37]
  · have e0 : readL (bytesOf a0) = ([], true) := if_pos hp
    rw [e0] at hr1 hr2
    subst hr1 hr2
    have e1 : a0.toList = [37] := by
      rw [ByteArray.toList_eq]
      have h1 : a0.data.toList.map (fun b => (b.toNat : Int)) = [37] := hp
      have h0 : a0.data.toList.length = 1 := by
        have := congrArg List.length h1
        simpa using this
      obtain ⟨b, hb⟩ := List.length_eq_one_iff.1 h0
      rw [hb] at h1 ⊢
      simp at h1
      have h2 : b.toNat = 37 := by omega
      rw [show b = 37 from UInt8.toNat_inj.1 h2]
    clear hp e0
    go_enter Tryd.func33, Tryd.ntmps33
    go_wp2
    go_ret2
    exact ⟨rfl, Below.refl _ _⟩
  have e0 : readL (bytesOf a0) = (match readGo (bytesOf a0) with | none => ([], false) | some r => (r, decide (bytesOf a0 ≠ []))) := if_neg hp
  have e1 : ¬ a0.toList = [37] := by
    intro e
    rw [ByteArray.toList_eq] at e
    exact hp (show a0.data.toList.map _ = _ by rw [e]; rfl)
  have e2 : (a0.toList == ([37] : List UInt8)) = false := beq_eq_false_iff_ne.2 e1
  have hm : a0.size ≤ 9223372036854775807 := Nat.le_trans hs (by decide)
  have HR : Hid ((r1, r2) = (match readGo (bytesOf a0) with | none => (strOfNums [], false) | some r => (strOfNums r, decide (bytesOf a0 ≠ [])))) := Lib.hid (by
    rw [← hr1, ← hr2, e0]
    cases readGo (bytesOf a0) <;> rfl)
  clear hr1 hr2 e0 hp
  have bad : readGo (bytesOf a0) = none → r1 = strOfNums [] ∧ r2 = false := by
    intro hb
    have := HR.out
    rw [hb] at this
    injection this with q1 q2
    exact ⟨q1, q2⟩
  have BAD := Lib.hid bad
  clear bad
  go_enter Tryd.func33, Tryd.ntmps33
  go_wp2
  have hI := bld_new 70 5 w
  have hB1 : Below w.heap.size w (w.alloc (.cells #[.pointer none, .slice none 0 0] 70)) := (Below.refl w.heap.size w).alloc (Nat.le_refl _) _
  have HI := Lib.hid hI
  have HB1 := Lib.hid hB1
  clear hI hB1
  go_loopw [5, 6, 7, 8, 9] (fun i _ _ _ _ wr => ∃ (k : Nat) (acc : List Int), k ≤ a0.size ∧ i = .int .i64 k ∧ Hid (Lib.IsBuilder 70 5 w.heap.size w.heap.size (nums .u8 acc) wr) ∧ Hid (acc.length ≤ k) ∧ Hid (∀ x ∈ acc, 0 ≤ x ∧ x ≤ 255) ∧ Hid (readGo (bytesOf a0) = (readGo ((bytesOf a0).drop k)).map (acc ++ ·)) ∧ Hid (Below w.heap.size w wr)) (fun i _ _ _ _ _ => a0.size - (intOf i).toNat)
  case atStart => exact ⟨0, [], Nat.zero_le _, rfl, HI, Lib.hid (Nat.le_refl _), Lib.hid (by simp), Lib.hid (by simp), HB1⟩
  case round =>
    obtain ⟨k, acc, hk, rfl, hbld, hal, hav, hread, hbel⟩ := hrel
    have hBw := hbel.out.size
    by_cases hlt : k < a0.size
    · have hb := bt_range a0 k
      have HD := Lib.hid (bt_drop' a0 k hlt)
      have hbt : ((a0[k]'hlt).toNat : Int) = bt a0 (k : Int) := bt_at a0 (k : Int) (by simpa using hlt)
      generalize hg : bt a0 (k : Int) = c at hb HD hbt
      clear hg
      by_cases c37 : c = 37
      · subst c37
        have d1 : ((37 : Int) != 37) = false := rfl
        by_cases h3 : a0.size - k < 3
        · have e3 : (a0.size : Int) - (k : Int) < 3 := by omega
          have hlen : ((bytesOf a0).drop (k + 1)).length < 2 := by
            rw [List.length_drop, bytesOf_length]
            omega
          have HP := Lib.hid (readGo_short hlen)
          clear hlen h3
          go_wp2
          go_ret2
          obtain ⟨q1, q2⟩ := BAD.out (by rw [hread.out, HD.out, HP.out]; rfl)
          exact ⟨ret_str_bool q1.symm q2.symm, hbel.out⟩
        have e3 : 3 ≤ (a0.size : Int) - (k : Int) := by omega
        have hl1 : k + 1 < a0.size := by omega
        have hl2 : k + 2 < a0.size := by omega
        have ha := bt_range a0 ((k + 1 : Nat) : Int)
        have hb2 := bt_range a0 ((k + 2 : Nat) : Int)
        have HD1 := Lib.hid (bt_drop' a0 (k + 1) hl1)
        have HD2 := Lib.hid (bt_drop' a0 (k + 2) hl2)
        have hbt1 : ((a0[k + 1]'hl1).toNat : Int) = bt a0 ((k + 1 : Nat) : Int) := bt_at a0 ((k + 1 : Nat) : Int) (by show k + 1 < a0.size; exact hl1)
        have hbt2 : ((a0[k + 2]'hl2).toNat : Int) = bt a0 ((k + 2 : Nat) : Int) := bt_at a0 ((k + 2 : Nat) : Int) (by show k + 2 < a0.size; exact hl2)
        generalize hg1 : bt a0 ((k + 1 : Nat) : Int) = c1 at ha HD1 hbt1
        generalize hg2 : bt a0 ((k + 2 : Nat) : Int) = c2 at hb2 HD2 hbt2
        clear hg1 hg2 h3
        have hx := hexV_in c1
        have hy := hexV_in c2
        have hor := or_nibbles hx.1 hx.2 hy.1 hy.2
        have NO : Hid ((¬ ((hexV c1).2 = true ∧ (hexV c2).2 = true ∧ plainB ((hexV c1).1 * 16 + (hexV c2).1) = false)) → r1 = strOfNums [] ∧ r2 = false) := Lib.hid (fun hn => BAD.out (by rw [hread.out, HD.out, HD1.out, HD2.out, readGo_no hn]; rfl))
        have YES : Hid ((hexV c1).2 = true → (hexV c2).2 = true → plainB ((hexV c1).1 * 16 + (hexV c2).1) = false → readGo (bytesOf a0) = (readGo ((bytesOf a0).drop (k + 3))).map ((acc ++ [(hexV c1).1 * 16 + (hexV c2).1]) ++ ·)) := Lib.hid (fun p1 p2 p3 => by rw [hread.out, HD.out, HD1.out, HD2.out, readGo_yes p1 p2 p3, map_snoc])
        generalize hq1 : hexV c1 = v1 at hx hor NO YES
        generalize hq2 : hexV c2 = v2 at hy hor NO YES
        obtain ⟨x, p⟩ := v1
        obtain ⟨y, q⟩ := v2
        simp only at hx hy hor
        have HQ1 := Lib.hid hq1
        have HQ2 := Lib.hid hq2
        clear hq1 hq2
        have hxy : 0 ≤ x * 16 + y ∧ x * 16 + y ≤ 255 := by omega
        have V1 : Hid (∀ w, Calls Tryd.prog 41 #[.int .u8 c1] w fun e w' => e = .returned (.tuple #[.int .u8 x, .bool p]) ∧ w = w') := Lib.hid (fun w => by
          have := quote_Read.value c1 w ha.1 ha.2
          rw [HQ1.out] at this
          exact this)
        have V2 : Hid (∀ w, Calls Tryd.prog 41 #[.int .u8 c2] w fun e w' => e = .returned (.tuple #[.int .u8 y, .bool q]) ∧ w = w') := Lib.hid (fun w => by
          have := quote_Read.value c2 w hb2.1 hb2.2
          rw [HQ2.out] at this
          exact this)
        clear HQ1 HQ2
        cases p
        · -- the first digit is none
          go_wp2_with fail
          refine (V1.out _).mono ?_
          rintro e w' ⟨rfl, rfl⟩
          go_wp2_with fail
          refine (V2.out _).mono ?_
          rintro e w' ⟨rfl, rfl⟩
          go_wp2
          go_ret2
          obtain ⟨q1, q2⟩ := NO.out (by rintro ⟨h, _⟩; exact absurd h (by decide))
          exact ⟨ret_str_bool q1.symm q2.symm, hbel.out⟩
        cases q
        · -- the second digit is none
          go_wp2_with fail
          refine (V1.out _).mono ?_
          rintro e w' ⟨rfl, rfl⟩
          go_wp2_with fail
          refine (V2.out _).mono ?_
          rintro e w' ⟨rfl, rfl⟩
          go_wp2
          go_ret2
          obtain ⟨q1, q2⟩ := NO.out (by rintro ⟨_, h, _⟩; exact absurd h (by decide))
          exact ⟨ret_str_bool q1.symm q2.symm, hbel.out⟩
        cases hpl : plainB (x * 16 + y)
        · have HPL := Lib.hid hpl
          go_wp2_with fail
          refine (V1.out _).mono ?_
          rintro e w' ⟨rfl, rfl⟩
          go_wp2_with fail
          refine (V2.out _).mono ?_
          rintro e w' ⟨rfl, rfl⟩
          go_wp2_with (go_at_call 39; refine (quote_Word.plain (x * 16 + y) _ hxy.1 hxy.2).mono ?_; rintro e w' ⟨rfl, rfl⟩)
          refine (bld_byte _ _ _ _ _ hbld.out (by have := hal.out; rw [show (nums .u8 acc).length = acc.length from List.length_map _]; omega) hBw).mono ?_
          rintro e w1 ⟨rfl, hb1, hb4, hb5⟩
          have Hb1 := Lib.hid hb1
          have Hb2 := Lib.hid (hbel.out.trans hb4)
          clear hb1 hb4 hb5
          go_wp2
          go_roundw
          case rel => exact ⟨k + 3, acc ++ [x * 16 + y], by omega, by go_num, Lib.hid (by rw [nums_append]; exact Hb1.out), Lib.hid (by have := hal.out; simp; omega), Lib.hid (by
            intro z hz
            rcases List.mem_append.1 hz with hz | hz
            · exact hav.out z hz
            · rw [List.mem_singleton.1 hz]
              exact hxy), Lib.hid (YES.out (by first | rfl | trivial) (by first | rfl | trivial) HPL.out), Hb2⟩
          case measure => simp [intOf]; omega
        · have HPL := Lib.hid hpl
          go_wp2_with fail
          refine (V1.out _).mono ?_
          rintro e w' ⟨rfl, rfl⟩
          go_wp2_with fail
          refine (V2.out _).mono ?_
          rintro e w' ⟨rfl, rfl⟩
          go_wp2_with (go_at_call 39; refine (quote_Word.plain (x * 16 + y) _ hxy.1 hxy.2).mono ?_; rintro e w' ⟨rfl, rfl⟩)
          go_ret2
          obtain ⟨q1, q2⟩ := NO.out (by rintro ⟨_, _, h⟩; rw [HPL.out] at h; cases h)
          exact ⟨ret_str_bool q1.symm q2.symm, hbel.out⟩
      · have d1 : (c != 37) = true := bne_iff_ne.2 c37
        have D1 := Lib.hid c37
        clear c37
        cases hp : plainB c
        · have HP := Lib.hid (readGo_bad (r := (bytesOf a0).drop (k + 1)) D1.out hp)
          go_wp2_with (go_at_call 39; refine (quote_Word.plain c _ hb.1 hb.2).mono ?_; rintro e w' ⟨rfl, rfl⟩)
          go_ret2
          obtain ⟨q1, q2⟩ := BAD.out (by rw [hread.out, HD.out, HP.out]; rfl)
          exact ⟨ret_str_bool q1.symm q2.symm, hbel.out⟩
        · have HP := Lib.hid (readGo_plain (r := (bytesOf a0).drop (k + 1)) D1.out hp)
          go_wp2_with (first | (go_at_call 39; refine (quote_Word.plain c _ hb.1 hb.2).mono ?_; rintro e w' ⟨rfl, rfl⟩) | (go_at_call 40; refine (bld_byte _ _ _ _ _ hbld.out (by have := hal.out; rw [show (nums .u8 acc).length = acc.length from List.length_map _]; omega) hBw).mono ?_; rintro e w1 ⟨rfl, hb1, hb2, hb3⟩))
          have Hb1 := Lib.hid hb1
          have Hb2 := Lib.hid (hbel.out.trans hb2)
          clear hb1 hb2 hb3
          go_roundw
          case rel => exact ⟨k + 1, acc ++ [c], by omega, by go_num, Lib.hid (by rw [nums_append]; exact Hb1.out), Lib.hid (by have := hal.out; simp; omega), Lib.hid (by
            intro z hz
            rcases List.mem_append.1 hz with hz | hz
            · exact hav.out z hz
            · rw [List.mem_singleton.1 hz]
              exact hb), Lib.hid (by rw [hread.out, HD.out, HP.out, map_snoc]), Hb2⟩
          case measure => simp [intOf]; omega
    · have HF : Hid ((r1, r2) = (strOfNums acc, decide (bytesOf a0 ≠ []))) := Lib.hid (by
        have h1 := hread.out
        rw [List.drop_of_length_le (by rw [bytesOf_length]; omega)] at h1
        have h2 := HR.out
        rw [h1] at h2
        simpa [readGo] using h2)
      have HE : Hid (decide (bytesOf a0 ≠ []) = !a0.toList.isEmpty) := Lib.hid (by
        by_cases hz : a0.size = 0
        · rw [show bytesOf a0 = [] from List.eq_nil_of_length_eq_zero (by rw [bytesOf_length]; exact hz), toList_nil hz]
          rfl
        · rw [(toList_ne hz).2]
          have : bytesOf a0 ≠ [] := fun e => hz (by rw [← bytesOf_length, e]; rfl)
          simp [this])
      go_wp2_with (go_at_call 42; refine (bld_text _ _ _ hav.out _ hbld.out hBw).mono ?_; rintro e w1 ⟨rfl, hb1⟩)
      go_ret2
      have h2 := HF.out
      injection h2 with q1 q2
      exact ⟨ret_str_bool q1.symm (by rw [← HE.out, q2]), hbel.out.trans hb1⟩

end Go.Proofs.YtfhnmcjajpnhpaaDoor.POpWrites
