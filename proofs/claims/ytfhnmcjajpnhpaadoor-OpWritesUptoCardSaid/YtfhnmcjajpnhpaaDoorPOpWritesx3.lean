-- LAID BY gprint.py: a scratch copy of the print, with functions that this session proved by hand among the printed ones
import Derived.Test.YtfhnmcjajpnhpaaDoorPOpWritesx0
import Derived.Test.YtfhnmcjajpnhpaaDoorPOpWritesx1
import Derived.Test.YtfhnmcjajpnhpaaDoorPOpWritesx2
namespace Go.Proofs.YtfhnmcjajpnhpaaDoor.POpWrites
open Go.RowKit Go.Proofs.YtfhnmcjajpnhpaaDoorW.PrintWords Go.Proofs.YtfhnmcjajpnhpaaDoorW.PrintLast Go.Proofs.YtfhnmcjajpnhpaaDoor.Conv Go.Proofs.YtfhnmcjajpnhpaaDoor.Bld Go.Proofs.YtfhnmcjajpnhpaaDoorW.PrintMore
attribute [local go_sem] max2_int min2_int max_two min_two max_three min_three max_four min_four gtr_less   -- for this text's walks alone
set_option linter.unusedVariables false
set_option linter.unusedSimpArgs false

/-! ### quote_Words: function 19 -/
def quote_Words.l0 : Nat → List ByteArray → List ByteArray → Int → Int → Option (List ByteArray × Bool)
  | 0, _, _, _, _ => none
  | k + 1, x4, x12, x13, x14 => if x14 < x13 then (if 0 ≤ x14 then (if x14 < (x12.length : Int) then ((quote_Read.f (rdOf ByteArray.empty x12 x14)).bind fun bt132 => (if bt132.2 = true then (if x4.length < 8796093022208 then (quote_Words.l0 k (x4 ++ [bt132.1]) x12 x13 (wrap64 (x14 + 1))) else (none)) else (some (([] : List ByteArray), false)))) else (none)) else (none)) else (some (x4, true))
def quote_Words.f (k : Nat) (a0 : ByteArray) : Option (List ByteArray × Bool) := if a0.toList = ([] : List UInt8) then (some (([] : List ByteArray), true)) else ((strings_Split.f k a0 (⟨#[32]⟩ : ByteArray)).bind fun t128 => (quote_Words.l0 k ([] : List ByteArray) t128 (t128.length : Int) 0))
theorem quote_Words.mono_l : ∀ k, (∀ y0 y1 y2 y3, LeO (quote_Words.l0 k y0 y1 y2 y3) (quote_Words.l0 (k + 1) y0 y1 y2 y3))
  | 0 => fun _ _ _ _ r h => by simp [quote_Words.l0] at h
  | k + 1 => by
    have ih0 := quote_Words.mono_l k
    · intro y0 y1 y2 y3
      unfold quote_Words.l0
      repeat' first
      | (with_reducible exact ih0 _ _ _ _)
      | (with_reducible exact strings_Split.mono _ _ _)
      | (with_reducible exact LeO.refl _)
      | (with_reducible exact LeO.none _)
      | (with_reducible refine LeO.ite ?_ ?_)
      | (with_reducible refine LeO.bind ?_ (fun _ => ?_))
      | exact ih0 _ _ _ _
      | exact strings_Split.mono _ _ _
      | exact LeO.none _
      | refine LeO.ite ?_ ?_
      | refine LeO.bind ?_ (fun _ => ?_)
theorem quote_Words.mono : ∀ a0 k, LeO (quote_Words.f k a0) (quote_Words.f (k + 1) a0) := by
  intro a0 k
  have ih0 := quote_Words.mono_l k
  unfold quote_Words.f
  repeat' first
      | (with_reducible exact ih0 _ _ _ _)
      | (with_reducible exact strings_Split.mono _ _ _)
      | (with_reducible exact LeO.refl _)
      | (with_reducible exact LeO.none _)
      | (with_reducible refine LeO.ite ?_ ?_)
      | (with_reducible refine LeO.bind ?_ (fun _ => ?_))
      | exact ih0 _ _ _ _
      | exact strings_Split.mono _ _ _
      | exact LeO.none _
      | refine LeO.ite ?_ ?_
      | refine LeO.bind ?_ (fun _ => ?_)
set_option maxHeartbeats 8000000 in
set_option maxRecDepth 100000 in
theorem quote_Words.calls (k : Nat) (a0 : ByteArray) (r1 : List ByteArray) (r2 : Bool) (w : World) (h : quote_Words.f k a0 = some (r1, r2)) :
    Calls Tryd.prog 19 #[.string a0] w fun e w' => ∃ v0_ : Value, e = .returned (.tuple #[v0_, .bool r2]) ∧ Kd.R Kd.string 9 w' w.heap.size (fun _ => True) v0_ r1 ∧ Below w.heap.size w w' := by
  have HB := Aside0.mk (Below.refl w.heap.size w)
  have H : (if a0.toList = ([] : List UInt8) then (some (([] : List ByteArray), true)) else ((strings_Split.f k a0 (⟨#[32]⟩ : ByteArray)).bind fun t128 => (quote_Words.l0 k ([] : List ByteArray) t128 (t128.length : Int) 0))) = some (r1, r2) := h
  clear h
  by_cases c2 : a0.toList = ([] : List UInt8)
  · rw [if_pos c2] at H
    have c2b0 : (a0.toList == ([] : List UInt8)) = true := beq_iff_eq.mpr c2
    have c2b1 : (a0.toList != ([] : List UInt8)) = false := bne_eq_false_iff_eq.mpr c2
    clear c2
    simp only [Option.some.injEq, Prod.mk.injEq] at H
    obtain ⟨rfl, rfl⟩ := H
    go_enter Tryd.func19, Tryd.ntmps19
    go_wp2
    go_ret2
    exact ⟨_, by first | rfl | (simp [errW_none, errW_some] <;> rfl) | (simp [*, errW_none, errW_some] <;> rfl), by first | exact Kd.R_nil _ _ _ _ _ | exact Kd.N_nil _ _ _ _ _ | exact Kd.V_nil _ _ _ _ _ | exact Kd.Q_nil _ _ _ _ _ | exact Kd.S_nil _ _ _ _ _, by repeat (first | (with_reducible first | exact HB.out | apply below_alloc | apply pw_below_drewN | apply below_drew1) | exact HB.out)⟩
  · rw [if_neg c2] at H
    have c2b0 : (a0.toList == ([] : List UInt8)) = false := beq_eq_false_iff_ne.mpr c2
    have c2b1 : (a0.toList != ([] : List UInt8)) = true := bne_iff_ne.mpr c2
    replace H := Option.bind_eq_some_iff.mp H
    obtain ⟨t128, A30, H⟩ := H
    replace H : (quote_Words.l0 k ([] : List ByteArray) t128 (t128.length : Int) 0) = some (r1, r2) := H
    have A3 := Aside0.mk A30
    clear A30
    have H' := Aside0.mk H
    clear H
    go_enter Tryd.func19, Tryd.ntmps19
    go_wp2_with (first | ((with_reducible refine gate_callee (f := 32) rfl ?_); refine goesL_ (some 12) rfl rfl Tryd.func32 (by kernel_rfl) rfl #[.string a0, .string (⟨#[32]⟩ : ByteArray)] rfl (by (try simp only [List.map_toArray, List.map_cons, List.map_nil]); first | done | rfl | (simp only [List.length_drop, List.length_take]; rfl)) ?_; (with_reducible refine (strings_Split.calls k a0 (⟨#[32]⟩ : ByteArray) t128 _ A3.out).mono ?_); rintro e w4 ⟨v129, rfl, ho0, hb⟩; refine ⟨_, rfl, ?_⟩; have n0_ := Aside0.mk (Kd.R_lower ho0 (below_size (by repeat (first | (with_reducible first | exact HB.out | apply below_alloc | apply pw_below_drewN | apply below_drew1) | exact HB.out)))); have n1_ := Aside0.mk (below_step (by repeat (first | (with_reducible first | exact HB.out | apply below_alloc | apply pw_below_drewN | apply below_drew1) | exact HB.out)) hb); clear HB; have HO130 := n0_; have HB := n1_; clear n0_ n1_; (try clear hb); (try clear hb2); (try clear hk); (try clear hi); (try clear ho0); obtain ⟨Ao5, co5, eo5⟩ := Kd.R_slice HO130.out; subst eo5))
    go_loopg [4, 14] k (fun kq v4 v14 w' => ∃ (x4_1 : List ByteArray) (x14_1 : Int), v14 = .int .i64 x14_1 ∧ Aside0 (quote_Words.l0 kq x4_1 t128 (t128.length : Int) x14_1 = some (r1, r2)) ∧ Aside0 (kq ≤ k) ∧ Aside0 (Kd.R Kd.string 9 w' w.heap.size (fun k_ => some k_ ≠ ((.slice Ao5 t128.length co5) : Value).ownBlock) v4 x4_1) ∧ Aside0 (Kd.R Kd.string 9 w' w.heap.size (fun k_ => some k_ ≠ (v4 : Value).ownBlock) (.slice Ao5 t128.length co5) t128) ∧ Aside0 (Below w.heap.size w w'))
    case atStart => exact ⟨(([] : List ByteArray)), (0), (by first | rfl | (simp; done) | (simp [*]; done) | exact isEmpty_bne _), H', ⟨Nat.le_refl _⟩, ⟨by first | exact Kd.R_nil _ _ _ _ _ | exact Kd.N_nil _ _ _ _ _ | exact Kd.V_nil _ _ _ _ _ | exact Kd.Q_nil _ _ _ _ _ | exact Kd.S_nil _ _ _ _ _⟩, ⟨by (with_reducible repeat (first | apply Kd.R_alloc | apply Kd.R_drewN | apply Kd.R_drew)); exact Kd.R_mono HO130.out (fun _ hk => (by simp [Value.ownBlock]))⟩, ⟨by repeat (first | (with_reducible first | exact HB.out | apply below_alloc | apply pw_below_drewN | apply below_drew1) | exact HB.out)⟩⟩
    case round =>
      clear H'
      try clear c1
      try clear c2
      try clear c2b0
      try clear c2b1
      try clear p2
      try clear c3
      obtain ⟨x4_1, x14_1, rfl, HA, HK1, HO_4, HO_12, HB⟩ := hrel
      cases gk with
      | zero => exact absurd HA.out (by simp [quote_Words.l0])
      | succ k1 =>
        have H := HA.out
        clear HA
        simp only [quote_Words.l0] at H
        by_cases c6 : x14_1 < (t128.length : Int)
        · rw [if_pos c6] at H
          have c6b0 : decide (x14_1 < (t128.length : Int)) = true := decide_eq_true c6
          clear c6
          by_cases c7 : 0 ≤ x14_1
          · rw [if_pos c7] at H
            have c7b0 : decide (0 ≤ x14_1) = true := decide_eq_true c7
            clear c7
            by_cases c8 : x14_1 < (t128.length : Int)
            · rw [if_pos c8] at H
              have c8b0 : decide (x14_1 < (t128.length : Int)) = true := decide_eq_true c8
              clear c8
              replace H := Option.bind_eq_some_iff.mp H
              obtain ⟨⟨t132, t133⟩, A90, H⟩ := H
              replace H : (if t133 = true then (if x4_1.length < 8796093022208 then (quote_Words.l0 k1 (x4_1 ++ [t132]) t128 (t128.length : Int) (wrap64 (x14_1 + 1))) else (none)) else (some (([] : List ByteArray), false))) = some (r1, r2) := H
              have A9 := Aside0.mk A90
              clear A90
              by_cases c10 : t133 = true
              · subst c10
                have H1 : (if x4_1.length < 8796093022208 then (quote_Words.l0 k1 (x4_1 ++ [t132]) t128 (t128.length : Int) (wrap64 (x14_1 + 1))) else (none)) = some (r1, r2) := by rw [if_pos rfl] at H; exact H
                clear H
                have H := H1
                clear H1
                by_cases c11 : x4_1.length < 8796093022208
                · rw [if_pos c11] at H
                  have LMc11 := Aside0.mk c11
                  clear c11
                  obtain ⟨y134, hy134⟩ : ∃ y_ : List ByteArray, y_ = (x4_1 ++ [t132]) := ⟨_, rfl⟩
                  replace H : (quote_Words.l0 k1 y134 t128 (t128.length : Int) (wrap64 (x14_1 + 1))) = some (r1, r2) := by first | (rw [hy134]; with_reducible exact H) | (have H2_ := (Option.bind_some _ _).symm.trans H; rw [hy134]; with_reducible exact H2_) | (have H2_ := (Option.bind_some _ _).symm.trans H; with_reducible exact H2_) | with_reducible exact H | (rw [hy134]; exact H) | exact H
                  have Ny134 := Aside0.mk hy134
                  clear hy134
                  have H' := Aside0.mk H
                  clear H
                  have p131 : 0 ≤ (x14_1 : Int) := of_decide_eq_true (by first | (with_reducible assumption) | assumption)
                  have q131 : x14_1 < (t128.length : Int) := of_decide_eq_true (by first | (with_reducible assumption) | assumption)
                  obtain ⟨ad131, e131, hx131_0⟩ := Kd.at_string (Kd.R_reads' HO_12.out).2.2 x14_1 p131 q131
                  cases e131
                  replace p131 := eq_true p131
                  replace q131 := eq_true q131
                  go_wp2_with (first | ((with_reducible refine gate_callee (f := 33) rfl ?_); refine goesL_ (some 20) rfl rfl Tryd.func33 (by kernel_rfl) rfl #[.string (rdOf ByteArray.empty t128 x14_1)] rfl (by (try simp only [List.map_toArray, List.map_cons, List.map_nil]); first | done | rfl | (simp only [List.length_drop, List.length_take]; rfl)) ?_; (with_reducible refine (quote_Read.calls (rdOf ByteArray.empty t128 x14_1) t132 true _ A9.out).mono ?_); rintro e w12 ⟨rfl, hb⟩; refine ⟨_, rfl, ?_⟩; have n0_ := Aside0.mk (Kd.R_below (by (with_reducible repeat (first | apply Kd.R_alloc | apply Kd.R_drewN | apply Kd.R_drew)); exact HO_4.out) hb); have n1_ := Aside0.mk (Kd.R_below (by (with_reducible repeat (first | apply Kd.R_alloc | apply Kd.R_drewN | apply Kd.R_drew)); exact HO_12.out) hb); have n2_ := Aside0.mk (below_step (by repeat (first | (with_reducible first | exact HB.out | apply below_alloc | apply pw_below_drewN | apply below_drew1) | exact HB.out)) hb); clear HO_4; clear HO_12; clear HB; have HO_4 := n0_; have HO_12 := n1_; have HB := n2_; clear n0_ n1_ n2_; (try clear hb); (try clear hb2); (try clear hk); (try clear hi)) | ((with_reducible refine gate_builtin (b := .append) (xs := #[.tmp 25, .tmp 27]) rfl ?_); at_builtin; refine Kd.R_append Kd.string (w0 := w) w.heap.size rfl (.tmp 25) (.tmp 27) 24 9 (.string ⟨#[]⟩) 16 rfl Tryd.underlying24 info9 rfl (by decide) (by omega) u4 x4_1 t132 [.string t132] (fun k_ => some k_ ≠ (.slice (some ad131) t128.length co5 : Value).ownBlock) (fun _ => False) rfl rfl ?aP (fun _ hk => hk.elim) ?aF ?aO ?aB ?aS ?aL ?_; (case aP => exact rfl); (case aB => exact (by repeat (first | (with_reducible first | exact HB.out | apply below_alloc | apply pw_below_drewN | apply below_drew1) | exact HB.out))); (case aF => exact (fun k_ hk => Kd.fresh' (Kd.R_lt (by (with_reducible repeat (first | apply Kd.R_alloc | apply Kd.R_drewN | apply Kd.R_drew)); exact HO_12.out)) k_ hk)); (case aO => exact (by (with_reducible repeat (first | apply Kd.R_alloc | apply Kd.R_drewN | apply Kd.R_drew)); exact HO_4.out)); (case aS => exact (below_size (by repeat (first | (with_reducible first | exact HB.out | apply below_alloc | apply pw_below_drewN | apply below_drew1) | exact HB.out)))); (case aL => have := LMc11.out; omega); intro v135 w13 ho hb hg hat; rw [← Ny134.out] at ho; have n0_ := Aside0.mk (Kd.R_after (ok := (fun _ => True)) (by (with_reducible repeat (first | apply Kd.R_alloc | apply Kd.R_drewN | apply Kd.R_drew)); exact Kd.R_mono HO_12.out (fun _ hk => ⟨trivial, hk⟩)) hg hat); have n1_ := Aside0.mk (hb); have n2_ := Aside0.mk (ho); clear HO_12; clear HB; clear HO_4; have HO_12 := n0_; have HB := n1_; have HO136 := n2_; clear n0_ n1_ n2_; clear ho hb hg hat))
                  go_roundg k1
                  case measure => have := HK1.out; omega
                  case rel => exact ⟨(y134), (wrap64 (x14_1 + 1)), (by first | rfl | (simp; done) | (simp [*]; done) | exact isEmpty_bne _), H', ⟨by have := HK1.out; omega⟩, ⟨by (with_reducible repeat (first | apply Kd.R_alloc | apply Kd.R_drewN | apply Kd.R_drew)); exact HO136.out⟩, ⟨by (with_reducible repeat (first | apply Kd.R_alloc | apply Kd.R_drewN | apply Kd.R_drew)); exact Kd.R_mono HO_12.out (fun _ hk => hk.2)⟩, ⟨by repeat (first | (with_reducible first | exact HB.out | apply below_alloc | apply pw_below_drewN | apply below_drew1) | exact HB.out)⟩⟩
                · rw [if_neg c11] at H
                  exact absurd H (by simp)
              · replace c10 := Bool.eq_false_iff.mpr c10
                subst c10
                have H1 : (some (([] : List ByteArray), false)) = some (r1, r2) := by rw [if_neg (show ¬ (false = true) by decide)] at H; exact H
                clear H
                have H := H1
                clear H1
                simp only [Option.some.injEq, Prod.mk.injEq] at H
                obtain ⟨rfl, rfl⟩ := H
                have p131 : 0 ≤ (x14_1 : Int) := of_decide_eq_true (by first | (with_reducible assumption) | assumption)
                have q131 : x14_1 < (t128.length : Int) := of_decide_eq_true (by first | (with_reducible assumption) | assumption)
                obtain ⟨ad131, e131, hx131_0⟩ := Kd.at_string (Kd.R_reads' HO_12.out).2.2 x14_1 p131 q131
                cases e131
                replace p131 := eq_true p131
                replace q131 := eq_true q131
                go_wp2_with (first | ((with_reducible refine gate_callee (f := 33) rfl ?_); refine goesL_ (some 20) rfl rfl Tryd.func33 (by kernel_rfl) rfl #[.string (rdOf ByteArray.empty t128 x14_1)] rfl (by (try simp only [List.map_toArray, List.map_cons, List.map_nil]); first | done | rfl | (simp only [List.length_drop, List.length_take]; rfl)) ?_; (with_reducible refine (quote_Read.calls (rdOf ByteArray.empty t128 x14_1) t132 false _ A9.out).mono ?_); rintro e w14 ⟨rfl, hb⟩; refine ⟨_, rfl, ?_⟩; have n0_ := Aside0.mk (Kd.R_below (by (with_reducible repeat (first | apply Kd.R_alloc | apply Kd.R_drewN | apply Kd.R_drew)); exact HO_4.out) hb); have n1_ := Aside0.mk (Kd.R_below (by (with_reducible repeat (first | apply Kd.R_alloc | apply Kd.R_drewN | apply Kd.R_drew)); exact HO_12.out) hb); have n2_ := Aside0.mk (below_step (by repeat (first | (with_reducible first | exact HB.out | apply below_alloc | apply pw_below_drewN | apply below_drew1) | exact HB.out)) hb); clear HO_4; clear HO_12; clear HB; have HO_4 := n0_; have HO_12 := n1_; have HB := n2_; clear n0_ n1_ n2_; (try clear hb); (try clear hb2); (try clear hk); (try clear hi)))
                go_ret2
                exact ⟨_, by first | rfl | (simp [errW_none, errW_some] <;> rfl) | (simp [*, errW_none, errW_some] <;> rfl), by first | exact Kd.R_nil _ _ _ _ _ | exact Kd.N_nil _ _ _ _ _ | exact Kd.V_nil _ _ _ _ _ | exact Kd.Q_nil _ _ _ _ _ | exact Kd.S_nil _ _ _ _ _, by repeat (first | (with_reducible first | exact HB.out | apply below_alloc | apply pw_below_drewN | apply below_drew1) | exact HB.out)⟩
            · rw [if_neg c8] at H
              exact absurd H (by simp)
          · rw [if_neg c7] at H
            exact absurd H (by simp)
        · rw [if_neg c6] at H
          have c6b0 : decide (x14_1 < (t128.length : Int)) = false := decide_eq_false c6
          clear c6
          simp only [Option.some.injEq, Prod.mk.injEq] at H
          obtain ⟨rfl, rfl⟩ := H
          go_wp2
          go_ret2
          exact ⟨_, by first | rfl | (simp [errW_none, errW_some] <;> rfl) | (simp [*, errW_none, errW_some] <;> rfl), by (with_reducible repeat (first | apply Kd.R_alloc | apply Kd.R_drewN | apply Kd.R_drew)); exact Kd.R_mono HO_4.out (fun _ hk => trivial), by repeat (first | (with_reducible first | exact HB.out | apply below_alloc | apply pw_below_drewN | apply below_drew1) | exact HB.out)⟩

-- GIVEN rounds=0 making=1
/-! ### op.Name: by hand: an array of texts, met at a variable place -/
def opNames : List ByteArray := [⟨#[]⟩, ⟨#[111, 112, 101, 110]⟩, ⟨#[97, 112, 112, 101, 110, 100]⟩, ⟨#[115, 121, 110, 99]⟩, ⟨#[114, 111, 116, 97, 116, 101]⟩, ⟨#[118, 97, 99, 117, 117, 109]⟩, ⟨#[99, 108, 111, 115, 101]⟩, ⟨#[97, 114, 109]⟩, ⟨#[99, 114, 97, 115, 104]⟩, ⟨#[109, 97, 116, 99, 104]⟩, ⟨#[111, 114]⟩, ⟨#[97, 110, 100]⟩, ⟨#[102, 108, 117, 115, 104]⟩, ⟨#[104, 101, 97, 100]⟩, ⟨#[116, 97, 105, 108]⟩, ⟨#[115, 101, 101, 107]⟩, ⟨#[114, 101, 97, 108]⟩, ⟨#[109, 111, 110, 111]⟩, ⟨#[110, 101, 120, 116]⟩, ⟨#[112, 114, 101, 118, 105, 111, 117, 115]⟩, ⟨#[115, 107, 105, 112]⟩, ⟨#[98, 97, 99, 107]⟩, ⟨#[99, 117, 114, 115, 111, 114]⟩, ⟨#[116, 111]⟩, ⟨#[116, 101, 115, 116]⟩, ⟨#[99, 111, 117, 110, 116]⟩, ⟨#[102, 105, 108, 101, 115]⟩, ⟨#[118, 101, 114, 105, 102, 121]⟩, ⟨#[102, 105, 101, 108, 100, 115]⟩, ⟨#[118, 97, 108, 117, 101, 115]⟩, ⟨#[116, 111, 112]⟩, ⟨#[115, 104, 111, 114, 116]⟩, ⟨#[106, 115, 111, 110]⟩, ⟨#[101, 120, 112, 111, 114, 116]⟩]
def op_Name.f (a0 : Int) : Option (ByteArray) := some (if 0 ≤ a0 ∧ a0 < 34 then opNames.getD a0.toNat ⟨#[]⟩ else ⟨#[]⟩)
def opCells : Array Value := (opNames.map Value.string).toArray
def opZero : Array Value := (List.replicate 34 (Value.string ⟨#[]⟩)).toArray
theorem opCells_get (k : Nat) (h : k < 34) : opCells[k]? = some (.string (opNames.getD k ⟨#[]⟩)) := by
  have h2 : k < opNames.length := h
  unfold opCells
  rw [List.getElem?_toArray, List.getElem?_map, List.getD_eq_getElem?_getD, List.getElem?_eq_getElem h2]
  rfl
theorem opCells_at (w : World) (k : Nat) (h : k < 34) : (w.alloc (.cells opCells 58)).cell? ⟨w.heap.size, k, none⟩ = some (.string (opNames.getD k ⟨#[]⟩)) := by
  rw [← opCells_get k h]
  unfold World.cell?
  rw [heap_alloc_new]
  rfl
set_option maxHeartbeats 1600000 in
set_option maxRecDepth 100000 in
theorem op_Name.calls (a0 : Int) (r : ByteArray) (w : World) (h : op_Name.f a0 = some r) :
    Calls Tryd.prog 12 #[.int .i64 a0] w fun e w' => e = .returned (.string r) ∧ Below w.heap.size w w' := by
  have hr : Hid ((if 0 ≤ a0 ∧ a0 < 34 then opNames.getD a0.toNat ⟨#[]⟩ else ⟨#[]⟩) = r) := Lib.hid (Option.some.inj h)
  clear h
  have hB : Below w.heap.size w (w.alloc (.cells opCells 58)) := (Below.refl _ _).alloc (Nat.le_refl _) _
  by_cases h0 : a0 < 0
  · go_enter Tryd.func12, Tryd.ntmps12
    go_wp2_with (first
      | (refine wpList_buildTo rfl 58 _ rfl (some 4) rfl opCells (by kernel_rfl) ?_)
      | (refine wpList_store_rowTo rfl 58 _ _ rfl rfl w.heap.size opCells rfl rfl 58 _ (heap_alloc_new _ _) (by kernel_rfl) (by kernel_rfl) (by kernel_rfl) ?_; rw [World.setRow_alloc_new]))
    go_ret
    exact ⟨ret_str (by rw [← hr.out, if_neg (by omega)]), hB⟩
  by_cases h1 : 34 ≤ a0
  · go_enter Tryd.func12, Tryd.ntmps12
    go_wp2_with (first
      | (refine wpList_buildTo rfl 58 _ rfl (some 4) rfl opCells (by kernel_rfl) ?_)
      | (refine wpList_store_rowTo rfl 58 _ _ rfl rfl w.heap.size opCells rfl rfl 58 _ (heap_alloc_new _ _) (by kernel_rfl) (by kernel_rfl) (by kernel_rfl) ?_; rw [World.setRow_alloc_new]))
    go_ret
    exact ⟨ret_str (by rw [← hr.out, if_neg (by omega)]), hB⟩
  obtain ⟨k, rfl⟩ := Int.eq_ofNat_of_zero_le (show 0 ≤ a0 by omega)
  have h2 : (k : Int) < 34 := by omega
  have h3 : k < 34 := by omega
  have hc := opCells_at w k h3
  have HR : Hid (opNames.getD k ⟨#[]⟩ = r) := Lib.hid (by rw [← hr.out, if_pos ⟨by omega, by omega⟩, Int.toNat_natCast])
  generalize hg : opNames.getD k ⟨#[]⟩ = x at hc HR
  clear hr hg
  go_enter Tryd.func12, Tryd.ntmps12
  go_wp2_with (first
      | (refine wpList_buildTo rfl 58 _ rfl (some 4) rfl opCells (by kernel_rfl) ?_)
      | (refine wpList_store_rowTo rfl 58 _ _ rfl rfl w.heap.size opCells rfl rfl 58 _ (heap_alloc_new _ _) (by kernel_rfl) (by kernel_rfl) (by kernel_rfl) ?_; rw [World.setRow_alloc_new]))
  go_ret
  exact ⟨ret_str HR.out, hB⟩

/-! ### op_kind: function 20 -/
def op_kind.l0 : Nat → ByteArray → Int → Option (Int)
  | 0, _, _ => none
  | k + 1, x0, x3 => if x3 ≤ 33 then ((op_Name.f x3).bind fun t137 => (if t137.toList = x0.toList then (some x3) else (op_kind.l0 k x0 (wrap64 (x3 + 1))))) else (some 0)
def op_kind.f (k : Nat) (a0 : ByteArray) : Option (Int) := op_kind.l0 k a0 1
theorem op_kind.mono_l : ∀ k, (∀ y0 y1, LeO (op_kind.l0 k y0 y1) (op_kind.l0 (k + 1) y0 y1))
  | 0 => fun _ _ r h => by simp [op_kind.l0] at h
  | k + 1 => by
    have ih0 := op_kind.mono_l k
    · intro y0 y1
      unfold op_kind.l0
      repeat' first
      | (with_reducible exact ih0 _ _)
      | (with_reducible exact LeO.refl _)
      | (with_reducible exact LeO.none _)
      | (with_reducible refine LeO.ite ?_ ?_)
      | (with_reducible refine LeO.bind ?_ (fun _ => ?_))
      | exact ih0 _ _
      | exact LeO.none _
      | refine LeO.ite ?_ ?_
      | refine LeO.bind ?_ (fun _ => ?_)
theorem op_kind.mono : ∀ a0 k, LeO (op_kind.f k a0) (op_kind.f (k + 1) a0) := by
  intro a0 k
  have ih0 := op_kind.mono_l k
  unfold op_kind.f
  repeat' first
      | (with_reducible exact ih0 _ _)
      | (with_reducible exact LeO.refl _)
      | (with_reducible exact LeO.none _)
      | (with_reducible refine LeO.ite ?_ ?_)
      | (with_reducible refine LeO.bind ?_ (fun _ => ?_))
      | exact ih0 _ _
      | exact LeO.none _
      | refine LeO.ite ?_ ?_
      | refine LeO.bind ?_ (fun _ => ?_)
set_option maxHeartbeats 8000000 in
set_option maxRecDepth 100000 in
theorem op_kind.calls (k : Nat) (a0 : ByteArray) (r : Int) (w : World) (h : op_kind.f k a0 = some r) :
    Calls Tryd.prog 20 #[.string a0] w fun e w' => e = .returned (.int .i64 r) ∧ Below w.heap.size w w' := by
  have HB := Aside0.mk (Below.refl w.heap.size w)
  have H : (op_kind.l0 k a0 1) = some r := h
  clear h
  have H' := Aside0.mk H
  clear H
  go_enter Tryd.func20, Tryd.ntmps20
  go_wp2
  go_loopg [3] k (fun kq v3 w' => ∃ (x3_1 : Int), v3 = .int .i64 x3_1 ∧ Aside0 (op_kind.l0 kq a0 x3_1 = some r) ∧ Aside0 (kq ≤ k) ∧ Aside0 (Below w.heap.size w w'))
  case atStart => exact ⟨(1), (by first | rfl | (simp; done) | (simp [*]; done) | exact isEmpty_bne _), H', ⟨Nat.le_refl _⟩, ⟨by repeat (first | (with_reducible first | exact HB.out | apply below_alloc | apply pw_below_drewN | apply below_drew1) | exact HB.out)⟩⟩
  case round =>
    clear H'
    obtain ⟨x3_1, rfl, HA, HK1, HB⟩ := hrel
    cases gk with
    | zero => exact absurd HA.out (by simp [op_kind.l0])
    | succ k1 =>
      have H := HA.out
      clear HA
      simp only [op_kind.l0] at H
      by_cases c2 : x3_1 ≤ 33
      · rw [if_pos c2] at H
        have c2b0 : decide (x3_1 ≤ 33) = true := decide_eq_true c2
        clear c2
        replace H := Option.bind_eq_some_iff.mp H
        obtain ⟨t137, A30, H⟩ := H
        replace H : (if t137.toList = a0.toList then (some x3_1) else (op_kind.l0 k1 a0 (wrap64 (x3_1 + 1)))) = some r := H
        have A3 := Aside0.mk A30
        clear A30
        by_cases c4 : t137.toList = a0.toList
        · rw [if_pos c4] at H
          have c4b0 : (t137.toList == a0.toList) = true := beq_iff_eq.mpr c4
          have c4b1 : (t137.toList != a0.toList) = false := bne_eq_false_iff_eq.mpr c4
          clear c4
          obtain rfl := Option.some.inj H
          go_wp2_with (first | ((with_reducible refine gate_callee (f := 12) rfl ?_); refine goesL_ (some 9) rfl rfl Tryd.func12 (by kernel_rfl) rfl #[.int .i64 x3_1] rfl (by (try simp only [List.map_toArray, List.map_cons, List.map_nil]); first | done | rfl | (simp only [List.length_drop, List.length_take]; rfl)) ?_; (with_reducible refine (op_Name.calls x3_1 t137 _ A3.out).mono ?_); rintro e w5 ⟨rfl, hb⟩; refine ⟨_, rfl, ?_⟩; have n0_ := Aside0.mk (below_step (by repeat (first | (with_reducible first | exact HB.out | apply below_alloc | apply pw_below_drewN | apply below_drew1) | exact HB.out)) hb); clear HB; have HB := n0_; clear n0_; (try clear hb); (try clear hb2); (try clear hk); (try clear hi)))
          go_ret
          exact ⟨by first | rfl | (simp [errW_none, errW_some] <;> rfl) | (simp [*, errW_none, errW_some] <;> rfl), by repeat (first | (with_reducible first | exact HB.out | apply below_alloc | apply pw_below_drewN | apply below_drew1) | exact HB.out)⟩
        · rw [if_neg c4] at H
          have c4b0 : (t137.toList == a0.toList) = false := beq_eq_false_iff_ne.mpr c4
          have c4b1 : (t137.toList != a0.toList) = true := bne_iff_ne.mpr c4
          have H' := Aside0.mk H
          clear H
          go_wp2_with (first | ((with_reducible refine gate_callee (f := 12) rfl ?_); refine goesL_ (some 9) rfl rfl Tryd.func12 (by kernel_rfl) rfl #[.int .i64 x3_1] rfl (by (try simp only [List.map_toArray, List.map_cons, List.map_nil]); first | done | rfl | (simp only [List.length_drop, List.length_take]; rfl)) ?_; (with_reducible refine (op_Name.calls x3_1 t137 _ A3.out).mono ?_); rintro e w6 ⟨rfl, hb⟩; refine ⟨_, rfl, ?_⟩; have n0_ := Aside0.mk (below_step (by repeat (first | (with_reducible first | exact HB.out | apply below_alloc | apply pw_below_drewN | apply below_drew1) | exact HB.out)) hb); clear HB; have HB := n0_; clear n0_; (try clear hb); (try clear hb2); (try clear hk); (try clear hi)))
          go_roundg k1
          case measure => have := HK1.out; omega
          case rel => exact ⟨(wrap64 (x3_1 + 1)), (by first | rfl | (simp; done) | (simp [*]; done) | exact isEmpty_bne _), H', ⟨by have := HK1.out; omega⟩, ⟨by repeat (first | (with_reducible first | exact HB.out | apply below_alloc | apply pw_below_drewN | apply below_drew1) | exact HB.out)⟩⟩
      · rw [if_neg c2] at H
        have c2b0 : decide (x3_1 ≤ 33) = false := decide_eq_false c2
        clear c2
        obtain rfl := Option.some.inj H
        go_wp2
        go_ret
        exact ⟨by first | rfl | (simp [errW_none, errW_some] <;> rfl) | (simp [*, errW_none, errW_some] <;> rfl), by repeat (first | (with_reducible first | exact HB.out | apply below_alloc | apply pw_below_drewN | apply below_drew1) | exact HB.out)⟩

-- GIVEN rounds=0 making=1
/-! ### export_Number: by hand: a loop over []byte(s) -/
def numGo : List Int → Int → Option Int
  | [], n => some n
  | c :: r, n => if c < 48 ∨ 57 < c then none else if (18446744073709551615 - (c - 48)) / 10 < n then none else numGo r (10 * n + (c - 48))
def export_Number.f (a0 : ByteArray) : Option (Int × Bool) :=
  if a0.size = 0 then some (0, false) else if a0.size > 20 then some (0, false) else if bt a0 0 = 48 ∧ a0.size > 1 then some (0, false) else some (match numGo (bytesOf a0) 0 with | some n => (n, true) | none => (0, false))
theorem drop_bytes (s : ByteArray) (k : Nat) (h : k < s.size) : (bytesOf s).drop k = ((s.data.toList.getD k 0).toNat : Int) :: (bytesOf s).drop (k + 1) := by
  have h1 : k < (bytesOf s).length := by rw [bytesOf_len]; exact h
  rw [List.drop_eq_getElem_cons h1]
  have h2 := bytesOf_get s k h
  rw [List.getElem?_eq_getElem h1] at h2
  rw [Option.some.inj h2]
theorem numGo_bad {c n : Int} {r : List Int} (h : c < 48 ∨ 57 < c) : numGo (c :: r) n = none := if_pos h
theorem numGo_big {c n : Int} {r : List Int} (h1 : 48 ≤ c) (h2 : c ≤ 57) (h : (18446744073709551615 - (c - 48)) / 10 < n) : numGo (c :: r) n = none := by
  show (if _ then _ else _) = _
  rw [if_neg (by omega), if_pos h]
theorem numGo_go {c n : Int} {r : List Int} (h1 : 48 ≤ c) (h2 : c ≤ 57) (h : n ≤ (18446744073709551615 - (c - 48)) / 10) : numGo (c :: r) n = numGo r (10 * n + (c - 48)) := by
  show (if _ then _ else _) = _
  rw [if_neg (by omega), if_neg (by omega)]
theorem ret_u64_bool {a b : Int} {p q : Bool} (h : a = b) (h2 : p = q) : Ending.returned (.tuple #[.int .u64 a, .bool p]) = .returned (.tuple #[.int .u64 b, .bool q]) := by rw [h, h2]
set_option maxHeartbeats 3200000 in
theorem export_Number.calls (a0 : ByteArray) (r1 : Int) (r2 : Bool) (w : World) (h : export_Number.f a0 = some (r1, r2)) :
    Calls Tryd.prog 22 #[.string a0] w fun e w' => e = .returned (.tuple #[.int .u64 r1, .bool r2]) ∧ Below w.heap.size w w' := by
  unfold export_Number.f at h
  have kc := fun (w : World) => Lib.run_convert_string_bytes (P := Tryd.prog) w 9 57 5 a0 Tryd.underlying9 Tryd.underlying57 Tryd.underlying5
  by_cases hz : a0.size = 0
  · rw [if_pos hz] at h
    injection h with h
    injection h with ha hb
    subst ha hb
    have e1 := toList_nil hz
    clear hz
    go_enter Tryd.func22, Tryd.ntmps22
    go_wp2
    go_ret2
    exact ⟨rfl, Below.refl _ _⟩
  rw [if_neg hz] at h
  obtain ⟨e1, e2⟩ := toList_ne hz
  by_cases h64 : a0.size > 20
  · rw [if_pos h64] at h
    injection h with h
    injection h with ha hb
    subst ha hb
    have e3 : 20 < (a0.size : Int) := by omega
    clear hz
    go_enter Tryd.func22, Tryd.ntmps22
    go_wp2
    go_ret2
    exact ⟨rfl, Below.refl _ _⟩
  rw [if_neg h64] at h
  have e3 : (a0.size : Int) ≤ 20 := by omega
  have e4 : 0 < a0.size := by omega
  have e5 := bt0 e4
  rw [e5] at h
  clear e5 hz
  have hB := below_bytes w 5 a0
  have HC : Hid (∀ k, k < a0.size → (Lib.bytesWorld w 5 a0).cell? ⟨w.heap.size, k, none⟩ = some (.int .u8 (a0.data.toList.getD k 0).toNat)) := Lib.hid (fun k hk => Lib.bytesWorld_cell w 5 a0 k hk)
  by_cases hd : ((a0[0]'e4).toNat : Int) = (48 : Int) ∧ a0.size > 1
  · rw [if_pos hd] at h
    injection h with h
    injection h with ha hb
    subst ha hb
    obtain ⟨d1, d2⟩ := hd
    have d3 : 1 < (a0.size : Int) := by omega
    go_enter Tryd.func22, Tryd.ntmps22
    go_wp2
    go_ret2
    exact ⟨rfl, Below.refl _ _⟩
  rw [if_neg hd] at h
  have hr := Lib.hid (Option.some.inj h)
  clear h
  have hd' : (((a0[0]'e4).toNat : Int) == (48 : Int)) = false ∨ (((a0[0]'e4).toNat : Int) == (48 : Int)) = true ∧ (a0.size : Int) ≤ 1 := by
    by_cases e : ((a0[0]'e4).toNat : Int) = (48 : Int)
    · exact .inr ⟨by rw [e]; rfl, by have : ¬ a0.size > 1 := fun h => hd ⟨e, h⟩; omega⟩
    · exact .inl (beq_eq_false_iff_ne.2 e)
  clear hd
  rcases hd' with d1 | ⟨d1, d2⟩
  all_goals
    go_enter Tryd.func22, Tryd.ntmps22
    go_wp2
    go_loop [28, 4, 6, 7] (fun i n c d => ∃ (k : Nat) (m : Int), k ≤ a0.size ∧ i = .int .i64 k ∧ n = .int .u64 m ∧ 0 ≤ m ∧ m ≤ 18446744073709551615 ∧ Hid (numGo ((bytesOf a0).drop k) m = numGo (bytesOf a0) 0)) (fun i _ _ _ => a0.size - (intOf i).toNat)
    case atStart => exact ⟨0, 0, Nat.zero_le _, rfl, rfl, by omega, by omega, Lib.hid rfl⟩
    case round =>
      obtain ⟨k, m, hk, rfl, rfl, hm0, hm1, ha⟩ := hrel
      by_cases hlt : k < a0.size
      · have hc := HC.out k hlt
        have hb := byte_range a0 k
        have HD := Lib.hid (drop_bytes a0 k hlt)
        generalize hg : ((a0.data.toList.getD k 0).toNat : Int) = c at hc hb HD
        clear hg
        by_cases c1 : c < 48
        · go_wp2
          go_ret2
          refine ⟨?_, hB⟩
          have := hr.out
          rw [← ha.out, HD.out, numGo_bad (.inl c1)] at this
          injection this with q1 q2
          exact ret_u64_bool q1 q2
        by_cases c2 : 57 < c
        · have c3 : 48 ≤ c := by omega
          go_wp2
          go_ret2
          refine ⟨?_, hB⟩
          have := hr.out
          rw [← ha.out, HD.out, numGo_bad (.inr c2)] at this
          injection this with q1 q2
          exact ret_u64_bool q1 q2
        have c3 : 48 ≤ c := by omega
        have c4 : c ≤ 57 := by omega
        by_cases c5 : (18446744073709551615 - (c - 48)) / 10 < m
        · clear c1 c2
          go_wp2
          go_ret2
          refine ⟨?_, hB⟩
          have := hr.out
          rw [← ha.out, HD.out, numGo_big c3 c4 c5] at this
          injection this with q1 q2
          exact ret_u64_bool q1 q2
        · have c6 : m ≤ (18446744073709551615 - (c - 48)) / 10 := by omega
          clear c1 c2 c5
          go_wp2
          go_round
          case rel => exact ⟨k + 1, 10 * m + (c - 48), by omega, by go_num, rfl, by omega, by omega, Lib.hid (by rw [← ha.out, HD.out, numGo_go c3 c4 c6])⟩
          case measure => simp [intOf]; omega
      · go_wp2
        go_ret2
        refine ⟨?_, hB⟩
        have := hr.out
        rw [← ha.out, List.drop_of_length_le (by rw [bytesOf_len]; omega)] at this
        injection this with q1 q2
        exact ret_u64_bool q1 q2

-- GIVEN rounds=1 making=1 needs=logbook/quote.Words,logbook/op.kind,logbook/op.takes,logbook/export.Number,(logbook/op.Op).Right
/-! ### op.Parse: by hand: a struct whose texts are a cut of the line's words -/
def numOf (s : ByteArray) : Int × Bool := (export_Number.f s).getD (0, false)
theorem numOf_eq (s : ByteArray) : export_Number.f s = some (numOf s) := by
  unfold numOf
  unfold export_Number.f
  repeat' split
  all_goals rfl
def opsOk (l : List ByteArray) : Bool := l.all fun x => (numOf x).2
def opNums (l : List ByteArray) : List Int := l.map fun x => (numOf x).1
def op_Parse.f (k : Nat) (a0 : ByteArray) : Option (Int × List Int × List ByteArray × Int) :=
  (quote_Words.f k a0).bind fun r => if r.2 = false ∨ r.1.length = 0 then some (0, [], [], 1) else
  (op_kind.f k (r.1.getD 0 ByteArray.empty)).bind fun kd => (op_takes.f k kd).bind fun t =>
  if 0 ≤ t.1 ∧ t.1 ≤ 2 then
    if (r.1.length : Int) < 1 + t.1 then some (0, [], [], 1) else
    if opsOk ((r.1.take (1 + t.1.toNat)).drop 1) = true then
      (op_Op_Right.f k kd (opNums ((r.1.take (1 + t.1.toNat)).drop 1)) (r.1.drop (1 + t.1.toNat))).bind fun b => if b = true then some (kd, opNums ((r.1.take (1 + t.1.toNat)).drop 1), r.1.drop (1 + t.1.toNat), 0) else some (0, [], [], 1)
    else some (0, [], [], 1)
  else none
theorem op_Parse.mono : ∀ a0 k, LeO (op_Parse.f k a0) (op_Parse.f (k + 1) a0) := by
  intro a0 k
  unfold op_Parse.f
  repeat' first
    | (with_reducible exact quote_Words.mono _ _)
    | (with_reducible exact op_kind.mono _ _)
    | (with_reducible exact op_takes.mono _ _)
    | (with_reducible exact op_Op_Right.mono _ _ _ _)
    | (with_reducible exact LeO.refl _)
    | (with_reducible exact LeO.none _)
    | (with_reducible refine LeO.ite ?_ ?_)
    | (with_reducible refine LeO.bind ?_ (fun _ => ?_))
/-- What is handed back: a struct with two rows that are read, and another value. -/
def OpOut (w : World) (r1 : Int) (r2 : List Int) (r3 : List ByteArray) (v : Value) (e : Ending) (w' : World) : Prop := ∃ (A1 : Option Addr) (c1 : Nat) (A2 : Option Addr) (c2 : Nat), e = .returned (.tuple #[.agg #[.int .i64 r1, .slice A1 r2.length c1, .slice A2 r3.length c2], v]) ∧ r2.length ≤ c1 ∧ Kd.C (Kd.int .u64) w' A1 r2.length r2 ∧ r3.length ≤ c2 ∧ Kd.C Kd.string w' A2 r3.length r3 ∧ Below w.heap.size w w'
theorem op_C_nil {α : Type} (d : Kd α) (w : World) : Kd.C d w none 0 [] := ⟨rfl, by simp, fun h => absurd h (by simp)⟩
theorem OpOut.nil {w w' : World} {v : Value} (h : Below w.heap.size w w') : OpOut w 0 [] [] v (.returned (.tuple #[.agg #[.int .i64 0, .slice none 0 0, .slice none 0 0], v])) w' :=
  ⟨none, 0, none, 0, rfl, Nat.le_refl _, op_C_nil _ _, Nat.le_refl _, op_C_nil _ _, h⟩
theorem opNums_snoc (l : List ByteArray) (x : ByteArray) : opNums (l ++ [x]) = opNums l ++ [(numOf x).1] := by simp [opNums]
theorem opsOk_snoc (l : List ByteArray) (x : ByteArray) : opsOk (l ++ [x]) = (opsOk l && (numOf x).2) := by simp [opsOk]
theorem op_info : (Tryd.prog.info? 47).map (fun i => (i.zero, i.size, i.bytes)) = some (some (.int .u64 0), 1, 8) := by kernel_rfl
theorem str_info : (Tryd.prog.info? 9).map (fun i => (i.zero, i.size, i.bytes)) = some (some (.string ⟨#[]⟩), 1, 16) := by kernel_rfl
theorem op_cut (g n c m : Nat) (hm : 1 + m ≤ n) (hc : n ≤ c) : ∃ (AC : Option Addr) (cc : Nat), (∀ W : World, (Instr.slice 24 (.slice (some ⟨g, 0, none⟩) n c) (some (.int .i64 1)) (some (.int .i64 (1 + (m : Int)))) none).run Tryd.prog W = .ok (.slice AC m cc) W) ∧ (0 < m → AC = some ⟨g, 1, none⟩) := by
  obtain ⟨i0, hi0, hzz⟩ := Option.map_eq_some_iff.1 str_info
  simp only [Prod.mk.injEq] at hzz
  have h := cut_mid (P := Tryd.prog) 24 9 .i64 .i64 Tryd.underlying24 hi0 1 hzz.2.1 (some ⟨g, 0, none⟩) n c 1 (1 + (m : Int)) (by omega) (by omega) (by omega) hc
  refine ⟨(if c = 1 then some ⟨g, 0, none⟩ else some ⟨g, 1, none⟩), c - 1, fun W => ?_, ?_⟩
  · rw [h W, show (1 + (m : Int)).toNat - (1 : Int).toNat = m by omega]
    rfl
  · intro h0
    rw [if_neg (by omega)]
theorem op_rest (g n c m : Nat) (hm : 1 + m ≤ n) (hc : n ≤ c) : ∃ (AT : Option Addr) (cT : Nat), (∀ W : World, (Instr.slice 24 (.slice (some ⟨g, 0, none⟩) n c) (some (.int .i64 (1 + (m : Int)))) none none).run Tryd.prog W = .ok (.slice AT (n - (1 + m)) cT) W) ∧ n - (1 + m) ≤ cT ∧ ∀ (xs : List ByteArray) (w : World), xs.length = n → Kd.C Kd.string w (some ⟨g, 0, none⟩) n xs → Kd.C Kd.string w AT (n - (1 + m)) (xs.drop (1 + m)) := by
  obtain ⟨i0, hi0, hzz⟩ := Option.map_eq_some_iff.1 str_info
  simp only [Prod.mk.injEq] at hzz
  have h := cut_from (P := Tryd.prog) 24 9 .i64 Tryd.underlying24 hi0 1 hzz.2.1 (some ⟨g, 0, none⟩) n c (1 + (m : Int)) (by omega) (by omega)
  rw [show (1 + (m : Int)).toNat = 1 + m by omega] at h
  refine ⟨_, _, h, by omega, fun xs w hl hC => ?_⟩
  subst hl
  have := Kd.C_drop (m := 1 + m) hC hm hc
  rw [List.length_drop] at this
  exact this
theorem op_elem (ws : List ByteArray) (m q : Nat) (hq : q < m) (hm : 1 + m ≤ ws.length) : ((ws.take (1 + m)).drop 1).take (q + 1) = ((ws.take (1 + m)).drop 1).take q ++ [ws.getD (1 + q) ByteArray.empty] := by
  have hl : q < ((ws.take (1 + m)).drop 1).length := by
    rw [List.length_drop, List.length_take]
    omega
  rw [List.take_succ_eq_append_getElem hl, List.getElem_drop, List.getElem_take, List.getD_eq_getElem?_getD, List.getElem?_eq_getElem (by omega)]
  rfl
set_option maxHeartbeats 6400000 in
set_option maxRecDepth 100000 in
theorem op_Parse.calls (k : Nat) (a0 : ByteArray) (r1 : Int) (r2 : List Int) (r3 : List ByteArray) (r4 : Int) (w : World) (h : op_Parse.f k a0 = some (r1, r2, r3, r4)) :
    Calls Tryd.prog 7 #[.string a0] w (OpOut w r1 r2 r3 (.int .i64 r4)) := by
  unfold op_Parse.f at h
  obtain ⟨⟨ws, ok⟩, hws, h⟩ := Option.bind_eq_some_iff.1 h
  have hu := Tryd.underlying26
  have HBX : Hid (Below w.heap.size w (w.alloc (.cells #[.int .i64 0, .slice none 0 0, .slice none 0 0] 26))) := Lib.hid ((Below.refl _ _).alloc (Nat.le_refl _) _)
  have HR0 : Hid ((w.alloc (.cells #[.int .i64 0, .slice none 0 0, .slice none 0 0] 26)).heap[w.heap.size]? = some (.cells #[.int .i64 0, .slice none 0 0, .slice none 0 0] 26 (0, 0))) := Lib.hid (heap_alloc_new _ _)
  have HWS := Lib.hid hws
  have HH := Lib.hid h
  have HU := Lib.hid hu
  clear h hws
  by_cases hbad : ok = false ∨ ws.length = 0
  · have hz : Hid (r1 = 0 ∧ r2 = [] ∧ r3 = [] ∧ r4 = 1) := Lib.hid (by
      have h := HH.out
      rw [if_pos hbad] at h
      simp only [Option.some.injEq, Prod.mk.injEq] at h
      obtain ⟨rfl, rfl, rfl, rfl⟩ := h
      exact ⟨rfl, rfl, rfl, rfl⟩)
    clear HH
    have hbad' : ok = false ∨ (ok = true ∧ ws.length = 0) := by
      rcases hbad with h | h
      · exact .inl h
      · cases ok
        · exact .inl rfl
        · exact .inr ⟨rfl, h⟩
    clear hbad
    rcases hbad' with rfl | ⟨rfl, hl⟩
    all_goals
      go_enter Tryd.func7, Tryd.ntmps7
      go_wp2_with (first
        | (go_at_call 19; (with_reducible refine (quote_Words.calls k a0 ws _ _ HWS.out).mono ?_); rintro e w2 ⟨v0, rfl, hR, hB⟩; obtain ⟨A0, c0, rfl⟩ := Kd.R_slice hR; have HBL := Lib.hid (blk_below HR0.out hB); have HB := Lib.hid (below_then HBX.out (by simp) hB); clear hR hB)
        | (refine store_ev rfl 26 _ _ rfl rfl w.heap.size #[.int .i64 0, .slice none 0 0, .slice none 0 0] rfl rfl 26 _ HBL.out (by kernel_rfl) (by kernel_rfl) (by kernel_rfl) ?_; intro w9 hb9 hp9; have HB9 := Lib.hid hb9; have HP9 := Lib.hid hp9; clear hb9 hp9))
      refine bodyPost_ret (results_ct rfl _ _ w.heap.size 26 #[.int .i64 0, .slice none 0 0, .slice none 0 0] (0, 0) _ rfl HB9.out hu rfl (by kernel_rfl)) rfl ?_
      obtain ⟨rfl, rfl, rfl, rfl⟩ := hz.out
      exact OpOut.nil (HP9.out.below HB.out (Nat.le_refl _))
  have hok : ok = true ∧ 0 < ws.length := by
    cases ok
    · exact absurd (.inl rfl) hbad
    · refine ⟨rfl, ?_⟩
      have : ¬ ws.length = 0 := fun e => hbad (.inr e)
      omega
  obtain ⟨rfl, hpos⟩ := hok
  have h := HH.out
  rw [if_neg hbad] at h
  obtain ⟨kd, hkd, h⟩ := Option.bind_eq_some_iff.1 h
  obtain ⟨⟨n, le, mo⟩, htk, h⟩ := Option.bind_eq_some_iff.1 h
  by_cases hn : 0 ≤ n ∧ n ≤ 2
  case neg => rw [if_neg hn] at h; cases h
  rw [if_pos hn] at h
  obtain ⟨m, rfl⟩ := Int.eq_ofNat_of_zero_le hn.1
  have hm2 : m ≤ 2 := by omega
  obtain ⟨x0, hx0⟩ : ∃ x, x = ws.getD 0 ByteArray.empty := ⟨_, rfl⟩
  rw [show (ws, true).1.getD 0 ByteArray.empty = x0 from hx0.symm] at hkd
  have HX0 := Lib.hid hx0
  have HKD := Lib.hid hkd
  clear hx0
  have HTK := Lib.hid htk
  have HH2 := Lib.hid h
  have hpos' : ¬ (ws.length : Int) = 0 := by omega
  clear HH h hkd htk hbad hn
  by_cases hsh : (ws.length : Int) < 1 + (m : Int)
  · have hz : Hid (r1 = 0 ∧ r2 = [] ∧ r3 = [] ∧ r4 = 1) := Lib.hid (by
      have h := HH2.out
      rw [if_pos hsh] at h
      simp only [Option.some.injEq, Prod.mk.injEq] at h
      obtain ⟨rfl, rfl, rfl, rfl⟩ := h
      exact ⟨rfl, rfl, rfl, rfl⟩)
    clear HH2
    go_enter Tryd.func7, Tryd.ntmps7
    go_wp2_with (first
      | (go_at_call 19; (with_reducible refine (quote_Words.calls k a0 ws _ _ HWS.out).mono ?_); rintro e w2 ⟨v0, rfl, hR, hB⟩; obtain ⟨g, c0, rfl, hg1, hg2, _⟩ := Kd.R_form hR hpos; have hc0 : w2.cell? ⟨g, 0, none⟩ = some (.string x0) := (by rw [HX0.out]; exact R_str hR 0 hpos); have HR := Lib.hid hR; have HBL := Lib.hid (blk_below HR0.out hB); have HB := Lib.hid (below_then HBX.out (by simp) hB); clear hR hB)
      | (go_at_call 20; (with_reducible refine (op_kind.calls k _ kd _ HKD.out).mono ?_); rintro e w3 ⟨rfl, hB3⟩; have HB3 := Lib.hid hB3; have HO := Lib.hid (heap_alloc_new w3 (.cells #[.int .i64 0, .slice none 0 0, .slice none 0 0] 26)); clear hB3 hc0)
      | (refine store_ev rfl 26 _ _ rfl rfl w3.heap.size #[.int .i64 kd, .slice none 0 0, .slice none 0 0] rfl rfl 26 _ HO.out (by kernel_rfl) (by kernel_rfl) (by kernel_rfl) ?_; intro w4 hb4 hp4; have hb4c := blk_cell hb4 0; simp at hb4c; have HB4 := Lib.hid hb4; have HP4 := Lib.hid hp4; clear hb4 hp4)
      | (go_at_call 21; (with_reducible refine (op_takes.calls k kd _ _ _ _ HTK.out).mono ?_); rintro e w5' ⟨rfl, nd, rfl⟩; have HBB : Hid (Below w2.heap.size w2 (w4.drewN nd)) := Lib.hid (pw_below_drewN (HP4.out.below (HB3.out.alloc HB3.out.size _) HB3.out.size) nd); have HO5 : Hid ((w4.drewN nd).heap[w3.heap.size]? = some (.cells #[.int .i64 kd, .slice none 0 0, .slice none 0 0] 26 (0, 0))) := Lib.hid HB4.out; clear HO HB4 hb4c)
      | (refine store_ev rfl 26 _ _ rfl rfl w.heap.size #[.int .i64 0, .slice none 0 0, .slice none 0 0] rfl rfl 26 _ (blk_below HBL.out HBB.out) (by kernel_rfl) (by kernel_rfl) (by kernel_rfl) ?_; intro w9 hb9 hp9; have HB9 := Lib.hid hb9; have HP9 := Lib.hid hp9; clear hb9 hp9))
    refine bodyPost_ret (results_ct rfl _ _ w.heap.size 26 #[.int .i64 0, .slice none 0 0, .slice none 0 0] (0, 0) _ rfl HB9.out hu rfl (by kernel_rfl)) rfl ?_
    obtain ⟨rfl, rfl, rfl, rfl⟩ := hz.out
    exact OpOut.nil (HP9.out.below (HB.out.trans (HBB.out.mono HB.out.size)) (Nat.le_refl _))
  have hge : 1 + (m : Int) ≤ (ws.length : Int) := by omega
  have hsh' : ¬ (ws.length : Int) < 1 + (m : Int) := hsh
  go_enter Tryd.func7, Tryd.ntmps7
  go_wp2_with (first
      | (go_at_call 19; (with_reducible refine (quote_Words.calls k a0 ws _ _ HWS.out).mono ?_); rintro e w2 ⟨v0, rfl, hR, hB⟩; obtain ⟨g, c0, rfl, hg1, hg2, _⟩ := Kd.R_form hR hpos; have hc0 : w2.cell? ⟨g, 0, none⟩ = some (.string x0) := (by rw [HX0.out]; exact R_str hR 0 hpos); have HR := Lib.hid hR; have HBL := Lib.hid (blk_below HR0.out hB); have HB := Lib.hid (below_then HBX.out (by simp) hB); clear hR hB; obtain ⟨AC, cc, hmid, hAC⟩ := op_cut g ws.length c0 m (by omega) (Kd.R_reads' HR.out).2.1; obtain ⟨AT, cT, hrest, hcT, hCT⟩ := op_rest g ws.length c0 m (by omega) (Kd.R_reads' HR.out).2.1; have HAC := Lib.hid hAC; have HCT := Lib.hid hCT; clear hAC hCT)
      | (go_at_call 20; (with_reducible refine (op_kind.calls k _ kd _ HKD.out).mono ?_); rintro e w3 ⟨rfl, hB3⟩; have HB3 := Lib.hid hB3; have HO := Lib.hid (heap_alloc_new w3 (.cells #[.int .i64 0, .slice none 0 0, .slice none 0 0] 26)); clear hB3 hc0)
      | (refine store_ev rfl 26 _ _ rfl rfl w3.heap.size #[.int .i64 kd, .slice none 0 0, .slice none 0 0] rfl rfl 26 _ HO.out (by kernel_rfl) (by kernel_rfl) (by kernel_rfl) ?_; intro w4 hb4 hp4; have hb4c := blk_cell hb4 0; simp at hb4c; have HB4 := Lib.hid hb4; have HP4 := Lib.hid hp4; clear hb4 hp4)
      | (go_at_call 21; (with_reducible refine (op_takes.calls k kd _ _ _ _ HTK.out).mono ?_); rintro e w5' ⟨rfl, nd, rfl⟩; have HBB : Hid (Below w2.heap.size w2 (w4.drewN nd)) := Lib.hid (pw_below_drewN (HP4.out.below (HB3.out.alloc HB3.out.size _) HB3.out.size) nd); have HO5 : Hid ((w4.drewN nd).heap[w3.heap.size]? = some (.cells #[.int .i64 kd, .slice none 0 0, .slice none 0 0] 26 (0, 0))) := Lib.hid HB4.out; clear HO HB4 hb4c))
  generalize w4.drewN nd = w5 at HBB HO5 ⊢
  generalize hH : w3.heap.size = H at *
  have HH3 : Hid (w2.heap.size ≤ H) := Lib.hid (by rw [← hH]; exact HB3.out.size)
  clear HP4 HB3 hH
  obtain ⟨cu, hcu⟩ : ∃ cu, cu = (ws.take (1 + m)).drop 1 := ⟨_, rfl⟩
  have HCU := Lib.hid hcu
  clear hcu
  go_loopw [50] (fun i wr => ∃ (q : Nat) (v : Value), q ≤ m ∧ i = .int .i64 q ∧ Hid (opsOk (cu.take q) = true) ∧ Hid (wr.heap[H]? = some (.cells #[.int .i64 kd, v, .slice none 0 0] 26 (0, 0))) ∧ Hid (Kd.R (Kd.int .u64) 47 wr w2.heap.size (fun _ => True) v (opNums (cu.take q))) ∧ Hid (Below w2.heap.size w2 wr)) (fun i _ => m - (intOf i).toNat)
  case atStart => exact ⟨0, _, Nat.zero_le _, rfl, Lib.hid rfl, HO5, Lib.hid (Kd.R_nil _ _ _ _ _), HBB⟩
  case round =>
    obtain ⟨q, v, hq, rfl, hok, hO, hV, hBr⟩ := hrel
    have hBz := hBr.out.size
    by_cases hlt : q < m
    · have hel := op_elem ws m q hlt (by omega)
      rw [← HCU.out] at hel
      have hcell : wr.cell? ⟨g, 1 + q, none⟩ = some (.string (ws.getD (1 + q) ByteArray.empty)) := by
        rw [Below.cell hBr.out (p := ⟨g, 1 + q, none⟩) hg2]
        exact R_str HR.out (1 + q) (by omega)
      generalize ws.getD (1 + q) ByteArray.empty = x at hel hcell
      have hnum := numOf_eq x
      generalize hnx : numOf x = nx at hnum
      obtain ⟨nv, nb⟩ := nx
      have HEL := Lib.hid hel
      have HNUM := Lib.hid hnum
      have HNX := Lib.hid hnx
      clear hel hnum hnx
      have HLT : (q : Int) < (m : Int) := by omega
      obtain rfl := HAC.out (by omega)
      cases nb
      · have hz : Hid (r1 = 0 ∧ r2 = [] ∧ r3 = [] ∧ r4 = 1) := Lib.hid (by
          have h := HH2.out
          have hbad : ¬ opsOk cu = true := by
            intro e
            have e2 : opsOk (cu.take (q + 1)) = true := by
              unfold opsOk at e ⊢
              rw [List.all_eq_true] at e ⊢
              exact fun y hy => e y (List.mem_of_mem_take hy)
            rw [HEL.out, opsOk_snoc, HNX.out] at e2
            simp at e2
          rw [if_neg (show ¬ ((ws.length : Int) < 1 + (m : Int)) by omega), Int.toNat_natCast] at h
          rw [← HCU.out, if_neg hbad] at h
          simp only [Option.some.injEq, Prod.mk.injEq] at h
          obtain ⟨rfl, rfl, rfl, rfl⟩ := h
          exact ⟨rfl, rfl, rfl, rfl⟩)
        go_wp2_with (first
          | (go_at_call 22; (with_reducible refine (export_Number.calls x nv false _ HNUM.out).mono ?_); rintro e w6 ⟨rfl, hb6⟩; have HB6 : Hid (Below w2.heap.size w2 w6) := Lib.hid (hBr.out.trans (hb6.mono hBz)); clear hb6 hcell)
          | (refine store_ev rfl 26 _ _ rfl rfl w.heap.size #[.int .i64 0, .slice none 0 0, .slice none 0 0] rfl rfl 26 _ (blk_below HBL.out HB6.out) (by kernel_rfl) (by kernel_rfl) (by kernel_rfl) ?_; intro w9 hb9 hp9; have HB9 := Lib.hid hb9; have HP9 := Lib.hid hp9; clear hb9 hp9))
        refine bodyPost_ret (results_ct rfl _ _ w.heap.size 26 #[.int .i64 0, .slice none 0 0, .slice none 0 0] (0, 0) _ rfl HB9.out hu rfl (by kernel_rfl)) rfl ?_
        obtain ⟨rfl, rfl, rfl, rfl⟩ := hz.out
        exact OpOut.nil (HP9.out.below (HB.out.trans (HB6.out.mono HB.out.size)) (Nat.le_refl _))
      · have HL := Lib.hid (show ((opNums (cu.take q)).length + 1) * 8 ≤ 140737488355328 by
          unfold opNums
          rw [List.length_map, List.length_take]
          omega)
        go_wp2_with (first
          | (go_at_call 22; (with_reducible refine (export_Number.calls x nv true _ HNUM.out).mono ?_); rintro e w6 ⟨rfl, hb6⟩; have HB6 : Hid (Below w2.heap.size w2 w6) := Lib.hid (hBr.out.trans (hb6.mono hBz)); have HO6 := Lib.hid (blk_below hO.out hb6); have HV6 := Lib.hid (Kd.R_below hV.out hb6); have hc6 := blk_cell HO6.out 1; simp at hc6; have hs6 := HB6.out.size; clear hb6 hcell)
          | (at_builtin; refine Kd.R_append (Kd.int .u64) (w0 := w2) w2.heap.size rfl (.tmp 63) (.tmp 65) 23 47 (.int .u64 0) 8 rfl Tryd.underlying23 op_info rfl (by decide) (by omega) _ (opNums (cu.take q)) nv [.int .u64 nv] (fun _ => True) (fun _ => False) rfl rfl rfl (fun _ hk => hk.elim) (fun _ _ => trivial) HV6.out HB6.out hs6 HL.out ?_; intro v1 w7 hv1 hb7 hg7 _; obtain ⟨Av1, cv1, rfl⟩ := Kd.R_slice hv1; have HV7 := Lib.hid hv1; have HB7 := Lib.hid hb7; have HO7 := Lib.hid (blk_grown HO6.out hg7 (Kd.R_ne HV6.out HO6.out (by decide))); have hc7 := blk_cell HO7.out 1; have hf7 := blk_frozen HO7.out 1; simp at hc7; clear hv1 hb7 hg7 hc6))
        go_roundw
        case rel => exact ⟨q + 1, _, by omega, by go_num, Lib.hid (by rw [HEL.out, opsOk_snoc, hok.out, HNX.out]; rfl), Lib.hid (blk_put HO7.out 1 _ rfl), Lib.hid (by rw [HEL.out, opNums_snoc, HNX.out]; have z := Kd.R_set HV7.out HO7.out (by decide) 1 (.slice Av1 ((opNums (cu.take q)).length + 1) cv1); rw [List.length_append] at z; exact z), Lib.hid (HB7.out.setCell HH3.out _)⟩
        case measure => simp [intOf]; omega
    · have hqe : q = m := by omega
      subst hqe
      have hcl : cu.take q = cu := List.take_of_length_le (by rw [HCU.out, List.length_drop, List.length_take]; omega)
      rw [hcl] at hok hV
      obtain ⟨Av, cv, rfl⟩ := Kd.R_slice hV.out
      have h := HH2.out
      rw [if_neg (show ¬ ((ws.length : Int) < 1 + (q : Int)) by omega), Int.toNat_natCast] at h
      rw [← HCU.out, if_pos hok.out] at h
      obtain ⟨b, hb, h⟩ := Option.bind_eq_some_iff.1 h
      have HRT := Lib.hid hb
      have HH3' := Lib.hid h
      have h0c := blk_cell hO.out 0
      have h1c := blk_cell hO.out 1
      have h2c := blk_cell hO.out 2
      have h2f := blk_frozen hO.out 2
      simp at h0c h1c h2c
      have hlen : (ws.drop (1 + q)).length = ws.length - (1 + q) := List.length_drop
      have hO8 := blk_put hO.out 2 (.slice AT (ws.length - (1 + q)) cT) rfl
      have hV8 := Kd.R_set hV.out hO.out (by decide) 2 (.slice AT (ws.length - (1 + q)) cT)
      have hB8 := hBr.out.setCell (p := ⟨H, 2, none⟩) HH3.out (.slice AT (ws.length - (1 + q)) cT)
      have hR8 := Kd.R_below HR.out hB8
      have hT8 := HCT.out ws _ rfl (Kd.R_reads' hR8).2.2
      have hcall : Calls Tryd.prog 15 #[.agg #[.int .i64 kd, .slice Av (opNums cu).length cv, .slice AT (ws.length - (1 + q)) cT]] (wr.setCell ⟨H, 2, none⟩ (.slice AT (ws.length - (1 + q)) cT)) fun e w' => e = .returned (.bool b) ∧ Below (wr.setCell ⟨H, 2, none⟩ (.slice AT (ws.length - (1 + q)) cT)).heap.size (wr.setCell ⟨H, 2, none⟩ (.slice AT (ws.length - (1 + q)) cT)) w' := by
        have z := op_Op_Right.calls k kd Av cv (opNums cu) AT cT (ws.drop (1 + q)) b (wr.setCell ⟨H, 2, none⟩ (.slice AT (ws.length - (1 + q)) cT)) (Kd.R_reads' hV8).2.2 (Kd.R_reads' hV8).2.1 (by rw [hlen]; exact hT8) (by rw [hlen]; exact hcT) HRT.out
        rw [hlen] at z
        exact z
      have HCALL := Lib.hid hcall
      have HO8 := Lib.hid hO8
      have HV8 := Lib.hid hV8
      have HB8 := Lib.hid hB8
      have HLEN := Lib.hid hlen
      clear h hb hcl hO8 hV8 hB8 hR8 hT8 hcall hlen
      cases b
      · have hz : Hid (r1 = 0 ∧ r2 = [] ∧ r3 = [] ∧ r4 = 1) := Lib.hid (by
          have h := HH3'.out
          simp only [Bool.false_eq_true, if_false, Option.some.injEq, Prod.mk.injEq] at h
          obtain ⟨rfl, rfl, rfl, rfl⟩ := h
          exact ⟨rfl, rfl, rfl, rfl⟩)
        go_wp2_with (first
          | (go_at_call 15; (with_reducible refine HCALL.out.mono ?_); rintro e w8 ⟨rfl, hb8⟩; have HB6 : Hid (Below w2.heap.size w2 w8) := Lib.hid (HB8.out.trans (hb8.mono HB8.out.size)); clear hb8)
          | (refine store_ev rfl 26 _ _ rfl rfl w.heap.size #[.int .i64 0, .slice none 0 0, .slice none 0 0] rfl rfl 26 _ (blk_below HBL.out HB6.out) (by kernel_rfl) (by kernel_rfl) (by kernel_rfl) ?_; intro w9 hb9 hp9; have HB9 := Lib.hid hb9; have HP9 := Lib.hid hp9; clear hb9 hp9))
        refine bodyPost_ret (results_ct rfl _ _ w.heap.size 26 #[.int .i64 0, .slice none 0 0, .slice none 0 0] (0, 0) _ rfl HB9.out hu rfl (by kernel_rfl)) rfl ?_
        obtain ⟨rfl, rfl, rfl, rfl⟩ := hz.out
        exact OpOut.nil (HP9.out.below (HB.out.trans (HB6.out.mono HB.out.size)) (Nat.le_refl _))
      · have hz : Hid (r1 = kd ∧ r2 = opNums cu ∧ r3 = ws.drop (1 + q) ∧ r4 = 0) := Lib.hid (by
          have h := HH3'.out
          simp only [if_true, Option.some.injEq, Prod.mk.injEq] at h
          obtain ⟨rfl, rfl, rfl, rfl⟩ := h
          exact ⟨rfl, rfl, rfl, rfl⟩)
        go_wp2_with (first
          | (go_at_call 15; (with_reducible refine HCALL.out.mono ?_); rintro e w8 ⟨rfl, hb8⟩; have HB6 : Hid (Below w2.heap.size w2 w8) := Lib.hid (HB8.out.trans (hb8.mono HB8.out.size)); have HO9 := Lib.hid (blk_below HO8.out hb8); have HV9 := Lib.hid (Kd.R_below HV8.out hb8); have g0c := blk_cell HO9.out 0; have g1c := blk_cell HO9.out 1; have g2c := blk_cell HO9.out 2; simp at g0c g1c g2c; clear hb8)
          | (refine store_ev rfl 26 _ _ rfl rfl w.heap.size #[.int .i64 kd, .slice Av (opNums cu).length cv, .slice AT (ws.length - (1 + q)) cT] rfl rfl 26 _ (blk_below HBL.out HB6.out) (by kernel_rfl) (by kernel_rfl) (by kernel_rfl) ?_; intro w9 hb9 hp9; have HB9 := Lib.hid hb9; have HP9 := Lib.hid hp9; clear hb9 hp9))
        refine bodyPost_ret (results_ct rfl _ _ w.heap.size 26 #[.int .i64 kd, .slice Av (opNums cu).length cv, .slice AT (ws.length - (1 + q)) cT] (0, 0) _ rfl HB9.out hu rfl (by kernel_rfl)) rfl ?_
        obtain ⟨rfl, rfl, rfl, rfl⟩ := hz.out
        have hV10 := HP9.out.R HV9.out (blk_below HBL.out HB6.out) (by decide)
        have hR10 := HP9.out.R (Kd.R_below HR.out HB6.out) (blk_below HBL.out HB6.out) (by decide)
        refine ⟨Av, cv, AT, cT, by rw [HLEN.out]; rfl, (Kd.R_reads' hV10).2.1, (Kd.R_reads' hV10).2.2, by rw [HLEN.out]; exact hcT, by rw [HLEN.out]; exact HCT.out ws _ rfl (Kd.R_reads' hR10).2.2, HP9.out.below (HB.out.trans (HB6.out.mono HB.out.size)) (Nat.le_refl _)⟩

/-! ### logbookref01_Words: function 25 -/
def logbookref01_Words.l0 : Nat → List Int → List Int → Int → Option (Bool)
  | 0, _, _, _ => none
  | k + 1, x0, x1, x5 => if x5 < (x0.length : Int) then (if 0 ≤ x5 then (if x5 < (x1.length : Int) then (if (rd x0 x5) = (rd x1 x5) then (logbookref01_Words.l0 k x0 x1 (wrap64 (x5 + 1))) else (some false)) else (none)) else (none)) else (some true)
def logbookref01_Words.f (k : Nat) (l0 : List Int) (l1 : List Int) : Option (Bool) := if (l0.length : Int) = (l1.length : Int) then (logbookref01_Words.l0 k l0 l1 0) else (some false)
theorem logbookref01_Words.mono_l : ∀ k, (∀ y0 y1 y2, LeO (logbookref01_Words.l0 k y0 y1 y2) (logbookref01_Words.l0 (k + 1) y0 y1 y2))
  | 0 => fun _ _ _ r h => by simp [logbookref01_Words.l0] at h
  | k + 1 => by
    have ih0 := logbookref01_Words.mono_l k
    · intro y0 y1 y2
      unfold logbookref01_Words.l0
      repeat' first
      | (with_reducible exact ih0 _ _ _)
      | (with_reducible exact LeO.refl _)
      | (with_reducible exact LeO.none _)
      | (with_reducible refine LeO.ite ?_ ?_)
      | (with_reducible refine LeO.bind ?_ (fun _ => ?_))
      | exact ih0 _ _ _
      | exact LeO.none _
      | refine LeO.ite ?_ ?_
      | refine LeO.bind ?_ (fun _ => ?_)
theorem logbookref01_Words.mono : ∀ a0 a1 k, LeO (logbookref01_Words.f k a0 a1) (logbookref01_Words.f (k + 1) a0 a1) := by
  intro a0 a1 k
  have ih0 := logbookref01_Words.mono_l k
  unfold logbookref01_Words.f
  repeat' first
      | (with_reducible exact ih0 _ _ _)
      | (with_reducible exact LeO.refl _)
      | (with_reducible exact LeO.none _)
      | (with_reducible refine LeO.ite ?_ ?_)
      | (with_reducible refine LeO.bind ?_ (fun _ => ?_))
      | exact ih0 _ _ _
      | exact LeO.none _
      | refine LeO.ite ?_ ?_
      | refine LeO.bind ?_ (fun _ => ?_)
set_option maxHeartbeats 8000000 in
set_option maxRecDepth 100000 in
theorem logbookref01_Words.calls (k : Nat) (A0 : Option Addr) (c0 : Nat) (l0 : List Int) (A1 : Option Addr) (c1 : Nat) (l1 : List Int) (r : Bool) (w : World) (hr0 : Kd.C (Kd.int .u64) w A0 l0.length l0) (hc0 : l0.length ≤ c0) (hr1 : Kd.C (Kd.int .u64) w A1 l1.length l1) (hc1 : l1.length ≤ c1) (h : logbookref01_Words.f k l0 l1 = some r) :
    Calls Tryd.prog 25 #[.slice A0 l0.length c0, .slice A1 l1.length c1] w fun e w' => e = .returned (.bool r) ∧ Drawn0 w w' := by
  have HR0 := Aside0.mk hr0
  have HC0 := Aside0.mk hc0
  clear hr0 hc0
  have HR1 := Aside0.mk hr1
  have HC1 := Aside0.mk hc1
  clear hr1 hc1
  have H : (if (l0.length : Int) = (l1.length : Int) then (logbookref01_Words.l0 k l0 l1 0) else (some false)) = some r := h
  clear h
  by_cases c3 : (l0.length : Int) = (l1.length : Int)
  · rw [if_pos c3] at H
    have c3b0 : ((l0.length : Int) == (l1.length : Int)) = true := beq_iff_eq.mpr c3
    have c3b1 : ((l0.length : Int) != (l1.length : Int)) = false := bne_eq_false_iff_eq.mpr c3
    have c3b2 : (l0.length == l1.length) = true := by first | simpa using c3 | (simp at c3 ⊢; omega)
    clear c3
    have H' := Aside0.mk H
    clear H
    go_enter Tryd.func25, Tryd.ntmps25
    go_wp2
    repeat (go_quiet (fail); try go_wp2)
    go_loopg [5] k (fun kq v5 w' => ∃ (x5_1 : Int), v5 = .int .i64 x5_1 ∧ Aside0 (logbookref01_Words.l0 kq l0 l1 x5_1 = some r) ∧ Aside0 (kq ≤ k) ∧ Drawn0 w w')
    case atStart => exact ⟨(0), (by first | rfl | (simp; done) | (simp [*]; done) | exact isEmpty_bne _), H', ⟨Nat.le_refl _⟩, by repeat (first | exact Drawn0.refl _ | apply Drawn0.step)⟩
    case round =>
      clear H'
      try clear c1
      try clear c2
      try clear p2
      try clear c3
      try clear c3b0
      try clear c3b1
      try clear c3b2
      obtain ⟨x5_1, rfl, HA, HK1, ⟨m1, rfl⟩⟩ := hrel
      cases gk with
      | zero => exact absurd HA.out (by simp [logbookref01_Words.l0])
      | succ k1 =>
        have H := HA.out
        clear HA
        simp only [logbookref01_Words.l0] at H
        by_cases c4 : x5_1 < (l0.length : Int)
        · rw [if_pos c4] at H
          have c4b0 : decide (x5_1 < (l0.length : Int)) = true := decide_eq_true c4
          clear c4
          by_cases c5 : 0 ≤ x5_1
          · rw [if_pos c5] at H
            have c5b0 : decide (0 ≤ x5_1) = true := decide_eq_true c5
            clear c5
            by_cases c6 : x5_1 < (l1.length : Int)
            · rw [if_pos c6] at H
              have c6b0 : decide (x5_1 < (l1.length : Int)) = true := decide_eq_true c6
              clear c6
              by_cases c7 : (rd l0 x5_1) = (rd l1 x5_1)
              · rw [if_pos c7] at H
                have c7b0 : ((rd l0 x5_1) == (rd l1 x5_1)) = true := beq_iff_eq.mpr c7
                have c7b1 : ((rd l0 x5_1) != (rd l1 x5_1)) = false := bne_eq_false_iff_eq.mpr c7
                clear c7
                have H' := Aside0.mk H
                clear H
                have p138 : 0 ≤ (x5_1 : Int) := of_decide_eq_true (by first | (with_reducible assumption) | assumption)
                have q138 : x5_1 < (l0.length : Int) := of_decide_eq_true (by first | (with_reducible assumption) | assumption)
                obtain ⟨ad138, e138, hx138_0⟩ := Kd.at_int HR0.out x5_1 p138 q138
                cases e138
                replace p138 := eq_true p138
                replace q138 := eq_true q138
                have p139 : 0 ≤ (x5_1 : Int) := of_decide_eq_true (by first | (with_reducible assumption) | assumption)
                have q139 : x5_1 < (l1.length : Int) := of_decide_eq_true (by first | (with_reducible assumption) | assumption)
                obtain ⟨ad139, e139, hx139_0⟩ := Kd.at_int HR1.out x5_1 p139 q139
                cases e139
                replace p139 := eq_true p139
                replace q139 := eq_true q139
                go_wp2
                repeat (go_quiet (fail); try go_wp2)
                go_roundg k1
                case measure => have := HK1.out; omega
                case rel => exact ⟨(wrap64 (x5_1 + 1)), (by first | rfl | (simp; done) | (simp [*]; done) | exact isEmpty_bne _), H', ⟨by have := HK1.out; omega⟩, by repeat (first | exact Drawn0.refl _ | apply Drawn0.step)⟩
              · rw [if_neg c7] at H
                have c7b0 : ((rd l0 x5_1) == (rd l1 x5_1)) = false := beq_eq_false_iff_ne.mpr c7
                have c7b1 : ((rd l0 x5_1) != (rd l1 x5_1)) = true := bne_iff_ne.mpr c7
                obtain rfl := Option.some.inj H
                have p138 : 0 ≤ (x5_1 : Int) := of_decide_eq_true (by first | (with_reducible assumption) | assumption)
                have q138 : x5_1 < (l0.length : Int) := of_decide_eq_true (by first | (with_reducible assumption) | assumption)
                obtain ⟨ad138, e138, hx138_0⟩ := Kd.at_int HR0.out x5_1 p138 q138
                cases e138
                replace p138 := eq_true p138
                replace q138 := eq_true q138
                have p139 : 0 ≤ (x5_1 : Int) := of_decide_eq_true (by first | (with_reducible assumption) | assumption)
                have q139 : x5_1 < (l1.length : Int) := of_decide_eq_true (by first | (with_reducible assumption) | assumption)
                obtain ⟨ad139, e139, hx139_0⟩ := Kd.at_int HR1.out x5_1 p139 q139
                cases e139
                replace p139 := eq_true p139
                replace q139 := eq_true q139
                go_wp2
                repeat (go_quiet (fail); try go_wp2)
                go_ret
                exact ⟨by first | rfl | (simp; done) | (simp [*]; done) | exact isEmpty_bne _, by repeat (first | exact Drawn0.refl _ | apply Drawn0.step)⟩
            · rw [if_neg c6] at H
              exact absurd H (by simp)
          · rw [if_neg c5] at H
            exact absurd H (by simp)
        · rw [if_neg c4] at H
          have c4b0 : decide (x5_1 < (l0.length : Int)) = false := decide_eq_false c4
          clear c4
          obtain rfl := Option.some.inj H
          go_wp2
          repeat (go_quiet (fail); try go_wp2)
          go_ret
          exact ⟨by first | rfl | (simp; done) | (simp [*]; done) | exact isEmpty_bne _, by repeat (first | exact Drawn0.refl _ | apply Drawn0.step)⟩
  · rw [if_neg c3] at H
    have c3b0 : ((l0.length : Int) == (l1.length : Int)) = false := beq_eq_false_iff_ne.mpr c3
    have c3b1 : ((l0.length : Int) != (l1.length : Int)) = true := bne_iff_ne.mpr c3
    have c3b2 : (l0.length == l1.length) = false := by first | simpa using c3 | (simp at c3 ⊢; omega)
    obtain rfl := Option.some.inj H
    go_enter Tryd.func25, Tryd.ntmps25
    go_wp2
    repeat (go_quiet (fail); try go_wp2)
    go_ret
    exact ⟨by first | rfl | (simp; done) | (simp [*]; done) | exact isEmpty_bne _, by repeat (first | exact Drawn0.refl _ | apply Drawn0.step)⟩

end Go.Proofs.YtfhnmcjajpnhpaaDoor.POpWrites
