-- LAID BY gprint.py: a scratch copy of the print, with functions that this session proved by hand among the printed ones
import Derived.Test.YtbbegchdlkmebaaDoorPExportBackx0
import Derived.Test.YtbbegchdlkmebaaDoorPExportBackx2
import Derived.Test.YtbbegchdlkmebaaDoorPExportBackx3
namespace Go.Proofs.YtbbegchdlkmebaaDoor.PExportBack
open Go.RowKit Go.Proofs.YtbbegchdlkmebaaDoorW.PrintWords Go.Proofs.YtbbegchdlkmebaaDoorW.PrintLast Go.Proofs.YtbbegchdlkmebaaDoor.Conv Go.Proofs.YtbbegchdlkmebaaDoor.Bld Go.Proofs.YtbbegchdlkmebaaDoorW.PrintMore
attribute [local go_sem] max2_int min2_int max_two min_two max_three min_three max_four min_four gtr_less   -- for this text's walks alone
set_option linter.unusedVariables false
set_option linter.unusedSimpArgs false

/-! ### cursor_Cursor_Text: function 25 -/
def cursor_Cursor_Text.f (k : Nat) (a0_0 : Int) (a0_1 : Int) (a0_2 : Int) (a0_3 : Int) (a0_4 : Int) (a0_5 : Int) : Option (ByteArray) := (name_Hex.f a0_0).bind fun t129 => (if 2 + t129.size ≤ 9223372036854775807 then ((cursor_Hex.f k a0_1).bind fun t130 => (if 2 + t130.size ≤ 9223372036854775807 then ((name_Hex.f a0_2).bind fun t131 => (if 2 + t131.size ≤ 9223372036854775807 then ((cursor_Hex.f k a0_3).bind fun t132 => (if 2 + t132.size ≤ 9223372036854775807 then ((cursor_Hex.f k a0_4).bind fun t133 => (if 2 + t133.size ≤ 9223372036854775807 then ((cursor_Hex.f k a0_5).bind fun t134 => (if 2 + t134.size ≤ 9223372036854775807 then ((strings_Join.f (([(⟨#[115, 61]⟩ : ByteArray) ++ t129, (⟨#[105, 61]⟩ : ByteArray) ++ t130, (⟨#[98, 61]⟩ : ByteArray) ++ t131, (⟨#[109, 61]⟩ : ByteArray) ++ t132, (⟨#[116, 61]⟩ : ByteArray) ++ t133, (⟨#[120, 61]⟩ : ByteArray) ++ t134] : List ByteArray)) (⟨#[59]⟩ : ByteArray)).bind fun t138 => (some t138)) else (none))) else (none))) else (none))) else (none))) else (none))) else (none))
theorem cursor_Cursor_Text.mono : ∀ a0 a1 a2 a3 a4 a5 k, LeO (cursor_Cursor_Text.f k a0 a1 a2 a3 a4 a5) (cursor_Cursor_Text.f (k + 1) a0 a1 a2 a3 a4 a5) := by
  intro a0 a1 a2 a3 a4 a5 k
  unfold cursor_Cursor_Text.f
  repeat' first
      | (with_reducible exact cursor_Hex.mono _ _)
      | (with_reducible exact LeO.refl _)
      | (with_reducible exact LeO.none _)
      | (with_reducible refine LeO.ite ?_ ?_)
      | (with_reducible refine LeO.bind ?_ (fun _ => ?_))
      | exact cursor_Hex.mono _ _
      | exact LeO.none _
      | refine LeO.ite ?_ ?_
      | refine LeO.bind ?_ (fun _ => ?_)
def cursor_Cursor_Text.T1 : Bool × List (List Nat × List Nat) := (true, [([], []), ([0], [0]), ([1], [1]), ([2], [2]), ([], []), ([4], [4]), ([5, 2], [5]), ([6], [6]), ([], []), ([8], [8]), ([9, 6], [9]), ([10], [10]), ([], []), ([12], [12]), ([13, 10], [13]), ([14], [14]), ([], []), ([16], [16]), ([17, 14], [17]), ([18], [18]), ([], []), ([20], [20]), ([21, 18], [21]), ([22], [22]), ([3, 7, 11, 15, 19, 23], [3, 7, 11, 15, 19, 23]), ([24, 22, 0, 1, 2, 3, 4, 5, 6, 7, 8, 9, 10, 11, 12, 13, 14, 15, 16, 17, 18, 19, 20, 21, 22, 23, 24], [24])])
def cursor_Cursor_Text.B1 : List Nat := [0, 1, 3, 7, 0, 16, 55, 119, 0, 256, 887, 1911, 0, 4096, 14199, 30583, 0, 65536, 227191, 489335, 0, 1048576, 3635063, 7829367, 16777215, 33554431]
theorem cursor_Cursor_Text.tab1 : rtab .any (opsOf Tryd.f25 1) = cursor_Cursor_Text.T1 := by kernel_rfl
theorem cursor_Cursor_Text.bits1 : waitsOk cursor_Cursor_Text.T1.2 cursor_Cursor_Text.B1 = true := by kernel_rfl
set_option maxHeartbeats 8000000 in
set_option maxRecDepth 100000 in
theorem cursor_Cursor_Text.calls (k : Nat) (a0_0 : Int) (a0_1 : Int) (a0_2 : Int) (a0_3 : Int) (a0_4 : Int) (a0_5 : Int) (r : ByteArray) (w : World) (h : cursor_Cursor_Text.f k a0_0 a0_1 a0_2 a0_3 a0_4 a0_5 = some r) :
    Calls Tryd.prog 25 #[.agg #[.int .u64 a0_0, .int .u64 a0_1, .int .u64 a0_2, .int .u64 a0_3, .int .u64 a0_4, .int .u64 a0_5]] w fun e w' => e = .returned (.string r) ∧ Below w.heap.size w w' := by
  have hu30 := Tryd.underlying30
  have HB := Aside0.mk (Below.refl w.heap.size w)
  have H : ((name_Hex.f a0_0).bind fun t129 => (if 2 + t129.size ≤ 9223372036854775807 then ((cursor_Hex.f k a0_1).bind fun t130 => (if 2 + t130.size ≤ 9223372036854775807 then ((name_Hex.f a0_2).bind fun t131 => (if 2 + t131.size ≤ 9223372036854775807 then ((cursor_Hex.f k a0_3).bind fun t132 => (if 2 + t132.size ≤ 9223372036854775807 then ((cursor_Hex.f k a0_4).bind fun t133 => (if 2 + t133.size ≤ 9223372036854775807 then ((cursor_Hex.f k a0_5).bind fun t134 => (if 2 + t134.size ≤ 9223372036854775807 then ((strings_Join.f (([(⟨#[115, 61]⟩ : ByteArray) ++ t129, (⟨#[105, 61]⟩ : ByteArray) ++ t130, (⟨#[98, 61]⟩ : ByteArray) ++ t131, (⟨#[109, 61]⟩ : ByteArray) ++ t132, (⟨#[116, 61]⟩ : ByteArray) ++ t133, (⟨#[120, 61]⟩ : ByteArray) ++ t134] : List ByteArray)) (⟨#[59]⟩ : ByteArray)).bind fun t138 => (some t138)) else (none))) else (none))) else (none))) else (none))) else (none))) else (none))) = some r := h
  clear h
  replace H := Option.bind_eq_some_iff.mp H
  obtain ⟨t129, A20, H⟩ := H
  replace H : (if 2 + t129.size ≤ 9223372036854775807 then ((cursor_Hex.f k a0_1).bind fun t130 => (if 2 + t130.size ≤ 9223372036854775807 then ((name_Hex.f a0_2).bind fun t131 => (if 2 + t131.size ≤ 9223372036854775807 then ((cursor_Hex.f k a0_3).bind fun t132 => (if 2 + t132.size ≤ 9223372036854775807 then ((cursor_Hex.f k a0_4).bind fun t133 => (if 2 + t133.size ≤ 9223372036854775807 then ((cursor_Hex.f k a0_5).bind fun t134 => (if 2 + t134.size ≤ 9223372036854775807 then ((strings_Join.f (([(⟨#[115, 61]⟩ : ByteArray) ++ t129, (⟨#[105, 61]⟩ : ByteArray) ++ t130, (⟨#[98, 61]⟩ : ByteArray) ++ t131, (⟨#[109, 61]⟩ : ByteArray) ++ t132, (⟨#[116, 61]⟩ : ByteArray) ++ t133, (⟨#[120, 61]⟩ : ByteArray) ++ t134] : List ByteArray)) (⟨#[59]⟩ : ByteArray)).bind fun t138 => (some t138)) else (none))) else (none))) else (none))) else (none))) else (none))) else (none)) = some r := H
  have A2 := Aside0.mk A20
  clear A20
  by_cases c3 : 2 + t129.size ≤ 9223372036854775807
  · rw [if_pos c3] at H
    have c3b0 := eq_true c3
    have c3b1 : decide (2 + t129.size ≤ 9223372036854775807) = true := decide_eq_true c3
    try have c3b2 : (9223372036854775807 < 2 + t129.size) = False := eq_false (Nat.not_lt.2 c3)
    replace H := Option.bind_eq_some_iff.mp H
    obtain ⟨t130, A40, H⟩ := H
    replace H : (if 2 + t130.size ≤ 9223372036854775807 then ((name_Hex.f a0_2).bind fun t131 => (if 2 + t131.size ≤ 9223372036854775807 then ((cursor_Hex.f k a0_3).bind fun t132 => (if 2 + t132.size ≤ 9223372036854775807 then ((cursor_Hex.f k a0_4).bind fun t133 => (if 2 + t133.size ≤ 9223372036854775807 then ((cursor_Hex.f k a0_5).bind fun t134 => (if 2 + t134.size ≤ 9223372036854775807 then ((strings_Join.f (([(⟨#[115, 61]⟩ : ByteArray) ++ t129, (⟨#[105, 61]⟩ : ByteArray) ++ t130, (⟨#[98, 61]⟩ : ByteArray) ++ t131, (⟨#[109, 61]⟩ : ByteArray) ++ t132, (⟨#[116, 61]⟩ : ByteArray) ++ t133, (⟨#[120, 61]⟩ : ByteArray) ++ t134] : List ByteArray)) (⟨#[59]⟩ : ByteArray)).bind fun t138 => (some t138)) else (none))) else (none))) else (none))) else (none))) else (none)) = some r := H
    have A4 := Aside0.mk A40
    clear A40
    by_cases c5 : 2 + t130.size ≤ 9223372036854775807
    · rw [if_pos c5] at H
      have c5b0 := eq_true c5
      have c5b1 : decide (2 + t130.size ≤ 9223372036854775807) = true := decide_eq_true c5
      try have c5b2 : (9223372036854775807 < 2 + t130.size) = False := eq_false (Nat.not_lt.2 c5)
      replace H := Option.bind_eq_some_iff.mp H
      obtain ⟨t131, A60, H⟩ := H
      replace H : (if 2 + t131.size ≤ 9223372036854775807 then ((cursor_Hex.f k a0_3).bind fun t132 => (if 2 + t132.size ≤ 9223372036854775807 then ((cursor_Hex.f k a0_4).bind fun t133 => (if 2 + t133.size ≤ 9223372036854775807 then ((cursor_Hex.f k a0_5).bind fun t134 => (if 2 + t134.size ≤ 9223372036854775807 then ((strings_Join.f (([(⟨#[115, 61]⟩ : ByteArray) ++ t129, (⟨#[105, 61]⟩ : ByteArray) ++ t130, (⟨#[98, 61]⟩ : ByteArray) ++ t131, (⟨#[109, 61]⟩ : ByteArray) ++ t132, (⟨#[116, 61]⟩ : ByteArray) ++ t133, (⟨#[120, 61]⟩ : ByteArray) ++ t134] : List ByteArray)) (⟨#[59]⟩ : ByteArray)).bind fun t138 => (some t138)) else (none))) else (none))) else (none))) else (none)) = some r := H
      have A6 := Aside0.mk A60
      clear A60
      by_cases c7 : 2 + t131.size ≤ 9223372036854775807
      · rw [if_pos c7] at H
        have c7b0 := eq_true c7
        have c7b1 : decide (2 + t131.size ≤ 9223372036854775807) = true := decide_eq_true c7
        try have c7b2 : (9223372036854775807 < 2 + t131.size) = False := eq_false (Nat.not_lt.2 c7)
        replace H := Option.bind_eq_some_iff.mp H
        obtain ⟨t132, A80, H⟩ := H
        replace H : (if 2 + t132.size ≤ 9223372036854775807 then ((cursor_Hex.f k a0_4).bind fun t133 => (if 2 + t133.size ≤ 9223372036854775807 then ((cursor_Hex.f k a0_5).bind fun t134 => (if 2 + t134.size ≤ 9223372036854775807 then ((strings_Join.f (([(⟨#[115, 61]⟩ : ByteArray) ++ t129, (⟨#[105, 61]⟩ : ByteArray) ++ t130, (⟨#[98, 61]⟩ : ByteArray) ++ t131, (⟨#[109, 61]⟩ : ByteArray) ++ t132, (⟨#[116, 61]⟩ : ByteArray) ++ t133, (⟨#[120, 61]⟩ : ByteArray) ++ t134] : List ByteArray)) (⟨#[59]⟩ : ByteArray)).bind fun t138 => (some t138)) else (none))) else (none))) else (none)) = some r := H
        have A8 := Aside0.mk A80
        clear A80
        by_cases c9 : 2 + t132.size ≤ 9223372036854775807
        · rw [if_pos c9] at H
          have c9b0 := eq_true c9
          have c9b1 : decide (2 + t132.size ≤ 9223372036854775807) = true := decide_eq_true c9
          try have c9b2 : (9223372036854775807 < 2 + t132.size) = False := eq_false (Nat.not_lt.2 c9)
          replace H := Option.bind_eq_some_iff.mp H
          obtain ⟨t133, A100, H⟩ := H
          replace H : (if 2 + t133.size ≤ 9223372036854775807 then ((cursor_Hex.f k a0_5).bind fun t134 => (if 2 + t134.size ≤ 9223372036854775807 then ((strings_Join.f (([(⟨#[115, 61]⟩ : ByteArray) ++ t129, (⟨#[105, 61]⟩ : ByteArray) ++ t130, (⟨#[98, 61]⟩ : ByteArray) ++ t131, (⟨#[109, 61]⟩ : ByteArray) ++ t132, (⟨#[116, 61]⟩ : ByteArray) ++ t133, (⟨#[120, 61]⟩ : ByteArray) ++ t134] : List ByteArray)) (⟨#[59]⟩ : ByteArray)).bind fun t138 => (some t138)) else (none))) else (none)) = some r := H
          have A10 := Aside0.mk A100
          clear A100
          by_cases c11 : 2 + t133.size ≤ 9223372036854775807
          · rw [if_pos c11] at H
            have c11b0 := eq_true c11
            have c11b1 : decide (2 + t133.size ≤ 9223372036854775807) = true := decide_eq_true c11
            try have c11b2 : (9223372036854775807 < 2 + t133.size) = False := eq_false (Nat.not_lt.2 c11)
            replace H := Option.bind_eq_some_iff.mp H
            obtain ⟨t134, A120, H⟩ := H
            replace H : (if 2 + t134.size ≤ 9223372036854775807 then ((strings_Join.f (([(⟨#[115, 61]⟩ : ByteArray) ++ t129, (⟨#[105, 61]⟩ : ByteArray) ++ t130, (⟨#[98, 61]⟩ : ByteArray) ++ t131, (⟨#[109, 61]⟩ : ByteArray) ++ t132, (⟨#[116, 61]⟩ : ByteArray) ++ t133, (⟨#[120, 61]⟩ : ByteArray) ++ t134] : List ByteArray)) (⟨#[59]⟩ : ByteArray)).bind fun t138 => (some t138)) else (none)) = some r := H
            have A12 := Aside0.mk A120
            clear A120
            by_cases c13 : 2 + t134.size ≤ 9223372036854775807
            · rw [if_pos c13] at H
              have c13b0 := eq_true c13
              have c13b1 : decide (2 + t134.size ≤ 9223372036854775807) = true := decide_eq_true c13
              try have c13b2 : (9223372036854775807 < 2 + t134.size) = False := eq_false (Nat.not_lt.2 c13)
              obtain ⟨y135, hy135⟩ : ∃ y_ : List ByteArray, y_ = (([(⟨#[115, 61]⟩ : ByteArray) ++ t129, (⟨#[105, 61]⟩ : ByteArray) ++ t130, (⟨#[98, 61]⟩ : ByteArray) ++ t131, (⟨#[109, 61]⟩ : ByteArray) ++ t132, (⟨#[116, 61]⟩ : ByteArray) ++ t133, (⟨#[120, 61]⟩ : ByteArray) ++ t134] : List ByteArray)) := ⟨_, rfl⟩
              replace H : ((strings_Join.f y135 (⟨#[59]⟩ : ByteArray)).bind fun t138 => (some t138)) = some r := by first | (rw [hy135]; with_reducible exact H) | (have H2_ := (Option.bind_some _ _).symm.trans H; rw [hy135]; with_reducible exact H2_) | (have H2_ := (Option.bind_some _ _).symm.trans H; with_reducible exact H2_) | with_reducible exact H | (rw [hy135]; exact H) | exact H
              have Ny135 := Aside0.mk hy135
              clear hy135
              replace H := Option.bind_eq_some_iff.mp H
              obtain ⟨t138, A140, H⟩ := H
              replace H : (some t138) = some r := H
              have A14 := Aside0.mk A140
              clear A140
              obtain rfl := Option.some.inj H
              go_enter Tryd.func25, Tryd.ntmps25
              try go_wp2_with (first | ((with_reducible refine gate_dst (N := 1) rfl ?_); refine box_event ?hg (N := 1) ?hd (cs := #[.int .u64 a0_0, .int .u64 a0_1, .int .u64 a0_2, .int .u64 a0_3, .int .u64 a0_4, .int .u64 a0_5]) (t := 30) ?hr ?_; (case hd => rfl); (case hg => rfl); (case hr => first | (go_simp; done) | (go_simp; rfl)); intro gb128 hg w15 hbox hb; have n0_ := Aside0.mk (below_step (by repeat (first | (with_reducible first | exact HB.out | apply below_alloc | apply pw_below_drewN | apply below_drew1) | exact HB.out)) hb); have n1_ := Aside0.mk (hbox); have n2_ := Aside0.mk ((by rw [hg]; exact (below_size (by repeat (first | (with_reducible first | exact HB.out | apply below_alloc | apply pw_below_drewN | apply below_drew1) | exact HB.out))) : w.heap.size ≤ gb128)); have n3_ := Aside0.mk ((by rw [hg]; exact (below_size (by repeat (first | (with_reducible first | exact HB.out | apply below_alloc | apply pw_below_drewN | apply below_drew1) | exact HB.out))) : w.heap.size ≤ gb128)); clear HB; have HB := n0_; have BK128 := n1_; have GW128 := n2_; have GE128 := n3_; clear n0_ n1_ n2_ n3_; clear hb hbox hg))
              have n0_ := Aside0.mk (blk_drew BK128.out)
              have n1_ := Aside0.mk (below_drew1 HB.out)
              clear BK128
              clear HB
              have BK128 := n0_
              have HB := n1_
              clear n0_ n1_
              refine start_ (n := 26) (S := fun w' => w'.cell? ⟨gb128, 0, none⟩ = some (.int .u64 a0_0) ∧ w'.cell? ⟨gb128, 1, none⟩ = some (.int .u64 a0_1) ∧ w'.cell? ⟨gb128, 2, none⟩ = some (.int .u64 a0_2) ∧ w'.cell? ⟨gb128, 3, none⟩ = some (.int .u64 a0_3) ∧ w'.cell? ⟨gb128, 4, none⟩ = some (.int .u64 a0_4) ∧ w'.cell? ⟨gb128, 5, none⟩ = some (.int .u64 a0_5)) (ds := []) #[false, false, false, false, false, false, false, false, false, false, false, false, false, false, false, false, false, false, false, false, false, false, false, false, false, false] (by kernel_rfl) rfl rfl ⟨(blk_cell BK128.out 0).trans rfl, (blk_cell BK128.out 1).trans rfl, (blk_cell BK128.out 2).trans rfl, (blk_cell BK128.out 3).trans rfl, (blk_cell BK128.out 4).trans rfl, (blk_cell BK128.out 5).trans rfl⟩ (fun hHeld => ?_); refine with_tabW cursor_Cursor_Text.tab1 cursor_Cursor_Text.bits1 (fun HT_ HW_ => ?_)
              generalize w15.drew = w16 at BK128 HB hHeld ⊢
              refine pure_ (i := 0) (N := some 4) (v := ?_) (a' := ?_) #[true, false, false, false, false, false, false, false, false, false, false, false, false, false, false, false, false, false, false, false, false, false, false, false, false, false] rfl rfl (any_of HT_.out (by kernel_rfl)) (fun _ _ _ h => h) (Or.inl ⟨by rfl, ?_⟩) ?_ ?_
              rotate_left
              · intro w'
                go_simp
                with_reducible rfl
              rotate_left
              · simp only [Act.put, List.setIfInBounds_toArray, List.set_cons_zero, List.set_cons_succ, i64_w, i32_w]
                rfl
              refine pure_ (i := 4) (N := some 8) (v := ?_) (a' := ?_) #[true, false, false, false, true, false, false, false, false, false, false, false, false, false, false, false, false, false, false, false, false, false, false, false, false, false] rfl rfl (any_of HT_.out (by kernel_rfl)) (fun _ _ _ h => h) (Or.inl ⟨by rfl, ?_⟩) ?_ ?_
              rotate_left
              · intro w'
                go_simp
                with_reducible rfl
              rotate_left
              · simp only [Act.put, List.setIfInBounds_toArray, List.set_cons_zero, List.set_cons_succ, i64_w, i32_w]
                rfl
              refine pure_ (i := 8) (N := some 12) (v := ?_) (a' := ?_) #[true, false, false, false, true, false, false, false, true, false, false, false, false, false, false, false, false, false, false, false, false, false, false, false, false, false] rfl rfl (any_of HT_.out (by kernel_rfl)) (fun _ _ _ h => h) (Or.inl ⟨by rfl, ?_⟩) ?_ ?_
              rotate_left
              · intro w'
                go_simp
                with_reducible rfl
              rotate_left
              · simp only [Act.put, List.setIfInBounds_toArray, List.set_cons_zero, List.set_cons_succ, i64_w, i32_w]
                rfl
              refine pure_ (i := 12) (N := some 16) (v := ?_) (a' := ?_) #[true, false, false, false, true, false, false, false, true, false, false, false, true, false, false, false, false, false, false, false, false, false, false, false, false, false] rfl rfl (any_of HT_.out (by kernel_rfl)) (fun _ _ _ h => h) (Or.inl ⟨by rfl, ?_⟩) ?_ ?_
              rotate_left
              · intro w'
                go_simp
                with_reducible rfl
              rotate_left
              · simp only [Act.put, List.setIfInBounds_toArray, List.set_cons_zero, List.set_cons_succ, i64_w, i32_w]
                rfl
              refine pure_ (i := 16) (N := some 20) (v := ?_) (a' := ?_) #[true, false, false, false, true, false, false, false, true, false, false, false, true, false, false, false, true, false, false, false, false, false, false, false, false, false] rfl rfl (any_of HT_.out (by kernel_rfl)) (fun _ _ _ h => h) (Or.inl ⟨by rfl, ?_⟩) ?_ ?_
              rotate_left
              · intro w'
                go_simp
                with_reducible rfl
              rotate_left
              · simp only [Act.put, List.setIfInBounds_toArray, List.set_cons_zero, List.set_cons_succ, i64_w, i32_w]
                rfl
              refine pure_ (i := 20) (N := some 24) (v := ?_) (a' := ?_) #[true, false, false, false, true, false, false, false, true, false, false, false, true, false, false, false, true, false, false, false, true, false, false, false, false, false] rfl rfl (any_of HT_.out (by kernel_rfl)) (fun _ _ _ h => h) (Or.inl ⟨by rfl, ?_⟩) ?_ ?_
              rotate_left
              · intro w'
                go_simp
                with_reducible rfl
              rotate_left
              · simp only [Act.put, List.setIfInBounds_toArray, List.set_cons_zero, List.set_cons_succ, i64_w, i32_w]
                rfl
              refine take_ (i := 1) (N := some 5) (v := ?_) (a' := ?_) #[true, true, false, false, true, false, false, false, true, false, false, false, true, false, false, false, true, false, false, false, true, false, false, false, false, false] rfl rfl (take_ofW HT_.out HW_.out (by kernel_rfl)) (fun _ _ _ h => h) (Or.inl ⟨by rfl, ?_⟩) hHeld ?_ ?_
              rotate_left
              · rintro w' ⟨s0, s1, s2, s3, s4, s5⟩
                go_simp
                with_reducible rfl
              rotate_left
              · simp only [Act.put, List.setIfInBounds_toArray, List.set_cons_zero, List.set_cons_succ, i64_w, i32_w]
                rfl
              refine take_ (i := 5) (N := some 9) (v := ?_) (a' := ?_) #[true, true, false, false, true, true, false, false, true, false, false, false, true, false, false, false, true, false, false, false, true, false, false, false, false, false] rfl rfl (take_ofW HT_.out HW_.out (by kernel_rfl)) (fun _ _ _ h => h) (Or.inl ⟨by rfl, ?_⟩) hHeld ?_ ?_
              rotate_left
              · rintro w' ⟨s0, s1, s2, s3, s4, s5⟩
                go_simp
                with_reducible rfl
              rotate_left
              · simp only [Act.put, List.setIfInBounds_toArray, List.set_cons_zero, List.set_cons_succ, i64_w, i32_w]
                rfl
              refine take_ (i := 9) (N := some 13) (v := ?_) (a' := ?_) #[true, true, false, false, true, true, false, false, true, true, false, false, true, false, false, false, true, false, false, false, true, false, false, false, false, false] rfl rfl (take_ofW HT_.out HW_.out (by kernel_rfl)) (fun _ _ _ h => h) (Or.inl ⟨by rfl, ?_⟩) hHeld ?_ ?_
              rotate_left
              · rintro w' ⟨s0, s1, s2, s3, s4, s5⟩
                go_simp
                with_reducible rfl
              rotate_left
              · simp only [Act.put, List.setIfInBounds_toArray, List.set_cons_zero, List.set_cons_succ, i64_w, i32_w]
                rfl
              refine take_ (i := 13) (N := some 17) (v := ?_) (a' := ?_) #[true, true, false, false, true, true, false, false, true, true, false, false, true, true, false, false, true, false, false, false, true, false, false, false, false, false] rfl rfl (take_ofW HT_.out HW_.out (by kernel_rfl)) (fun _ _ _ h => h) (Or.inl ⟨by rfl, ?_⟩) hHeld ?_ ?_
              rotate_left
              · rintro w' ⟨s0, s1, s2, s3, s4, s5⟩
                go_simp
                with_reducible rfl
              rotate_left
              · simp only [Act.put, List.setIfInBounds_toArray, List.set_cons_zero, List.set_cons_succ, i64_w, i32_w]
                rfl
              refine take_ (i := 17) (N := some 21) (v := ?_) (a' := ?_) #[true, true, false, false, true, true, false, false, true, true, false, false, true, true, false, false, true, true, false, false, true, false, false, false, false, false] rfl rfl (take_ofW HT_.out HW_.out (by kernel_rfl)) (fun _ _ _ h => h) (Or.inl ⟨by rfl, ?_⟩) hHeld ?_ ?_
              rotate_left
              · rintro w' ⟨s0, s1, s2, s3, s4, s5⟩
                go_simp
                with_reducible rfl
              rotate_left
              · simp only [Act.put, List.setIfInBounds_toArray, List.set_cons_zero, List.set_cons_succ, i64_w, i32_w]
                rfl
              refine take_ (i := 21) (N := some 25) (v := ?_) (a' := ?_) #[true, true, false, false, true, true, false, false, true, true, false, false, true, true, false, false, true, true, false, false, true, true, false, false, false, false] rfl rfl (take_ofW HT_.out HW_.out (by kernel_rfl)) (fun _ _ _ h => h) (Or.inl ⟨by rfl, ?_⟩) hHeld ?_ ?_
              rotate_left
              · rintro w' ⟨s0, s1, s2, s3, s4, s5⟩
                go_simp
                with_reducible rfl
              rotate_left
              · simp only [Act.put, List.setIfInBounds_toArray, List.set_cons_zero, List.set_cons_succ, i64_w, i32_w]
                rfl
              refine one_ (i := 2) (N := some 6) #[true, true, true, false, true, true, false, false, true, true, false, false, true, true, false, false, true, true, false, false, true, true, false, false, false, false] rfl rfl (one_of HT_.out (by kernel_rfl)) (by decide) (fun K hK => ?_)
              refine goes_ Tryd.func26 (by kernel_rfl) rfl #[.int .u64 a0_0] (by rfl) rfl rfl (by (try simp only [List.map_toArray, List.map_cons, List.map_nil]); first | done | rfl | (simp only [List.length_drop, List.length_take]; rfl)) ?_
              with_reducible refine (name_Hex.calls a0_0 t129 _ A2.out).mono ?_
              rintro e w17 ⟨rfl, hb⟩
              refine ⟨_, rfl, ?_⟩
              have n0_ := Aside0.mk (blk_below (g := gb128) (o := .cells #[.int .u64 a0_0, .int .u64 a0_1, .int .u64 a0_2, .int .u64 a0_3, .int .u64 a0_4, .int .u64 a0_5] 30 (0, 0)) (by (with_reducible repeat (first | refine blk_drewN ?_ _ | refine blk_drew ?_ | refine blk_alloc ?_ _)); exact BK128.out) hb)
              have n1_ := Aside0.mk (below_step (by repeat (first | (with_reducible first | exact HB.out | apply below_alloc | apply pw_below_drewN | apply below_drew1 | refine below_set ?_ GE128.out) | exact HB.out)) hb)
              clear BK128
              clear HB
              have BK128 := n0_
              have HB := n1_
              clear n0_ n1_
              (try clear hb)
              (try clear hb2)
              (try clear hk)
              (try clear hi)
              refine hK.out _ _ ⟨(blk_cell BK128.out 0).trans rfl, (blk_cell BK128.out 1).trans rfl, (blk_cell BK128.out 2).trans rfl, (blk_cell BK128.out 3).trans rfl, (blk_cell BK128.out 4).trans rfl, (blk_cell BK128.out 5).trans rfl⟩ (fun hHeld => ?_)
              clear hK K
              refine norm_ (a' := ?_) ?_ ?_
              rotate_left
              · show Act.put _ (some 6) _ = _
                simp only [Act.put, List.setIfInBounds_toArray, List.set_cons_zero, List.set_cons_succ, i64_w, i32_w]
                rfl
              refine pure_ (i := 3) (N := some 7) (v := ?_) (a' := ?_) #[true, true, true, true, true, true, false, false, true, true, false, false, true, true, false, false, true, true, false, false, true, true, false, false, false, false] rfl rfl (any_of HT_.out (by kernel_rfl)) (fun _ _ _ h => h) (Or.inl ⟨by rfl, ?_⟩) ?_ ?_
              rotate_left
              · intro w'
                go_simp
                with_reducible rfl
              rotate_left
              · simp only [Act.put, List.setIfInBounds_toArray, List.set_cons_zero, List.set_cons_succ, i64_w, i32_w]
                rfl
              refine one_ (i := 6) (N := some 10) #[true, true, true, true, true, true, true, false, true, true, false, false, true, true, false, false, true, true, false, false, true, true, false, false, false, false] rfl rfl (one_of HT_.out (by kernel_rfl)) (by decide) (fun K hK => ?_)
              refine goes_ Tryd.func44 (by kernel_rfl) rfl #[.int .u64 a0_1] (by rfl) rfl rfl (by (try simp only [List.map_toArray, List.map_cons, List.map_nil]); first | done | rfl | (simp only [List.length_drop, List.length_take]; rfl)) ?_
              with_reducible refine (cursor_Hex.calls k a0_1 t130 _ A4.out).mono ?_
              rintro e w18 ⟨rfl, hb⟩
              refine ⟨_, rfl, ?_⟩
              have n0_ := Aside0.mk (blk_below (g := gb128) (o := .cells #[.int .u64 a0_0, .int .u64 a0_1, .int .u64 a0_2, .int .u64 a0_3, .int .u64 a0_4, .int .u64 a0_5] 30 (0, 0)) (by (with_reducible repeat (first | refine blk_drewN ?_ _ | refine blk_drew ?_ | refine blk_alloc ?_ _)); exact BK128.out) hb)
              have n1_ := Aside0.mk (below_step (by repeat (first | (with_reducible first | exact HB.out | apply below_alloc | apply pw_below_drewN | apply below_drew1 | refine below_set ?_ GE128.out) | exact HB.out)) hb)
              clear BK128
              clear HB
              have BK128 := n0_
              have HB := n1_
              clear n0_ n1_
              (try clear hb)
              (try clear hb2)
              (try clear hk)
              (try clear hi)
              refine hK.out _ _ ⟨(blk_cell BK128.out 0).trans rfl, (blk_cell BK128.out 1).trans rfl, (blk_cell BK128.out 2).trans rfl, (blk_cell BK128.out 3).trans rfl, (blk_cell BK128.out 4).trans rfl, (blk_cell BK128.out 5).trans rfl⟩ (fun hHeld => ?_)
              clear hK K
              refine norm_ (a' := ?_) ?_ ?_
              rotate_left
              · show Act.put _ (some 10) _ = _
                simp only [Act.put, List.setIfInBounds_toArray, List.set_cons_zero, List.set_cons_succ, i64_w, i32_w]
                rfl
              refine pure_ (i := 7) (N := some 11) (v := ?_) (a' := ?_) #[true, true, true, true, true, true, true, true, true, true, false, false, true, true, false, false, true, true, false, false, true, true, false, false, false, false] rfl rfl (any_of HT_.out (by kernel_rfl)) (fun _ _ _ h => h) (Or.inl ⟨by rfl, ?_⟩) ?_ ?_
              rotate_left
              · intro w'
                go_simp
                with_reducible rfl
              rotate_left
              · simp only [Act.put, List.setIfInBounds_toArray, List.set_cons_zero, List.set_cons_succ, i64_w, i32_w]
                rfl
              refine one_ (i := 10) (N := some 14) #[true, true, true, true, true, true, true, true, true, true, true, false, true, true, false, false, true, true, false, false, true, true, false, false, false, false] rfl rfl (one_of HT_.out (by kernel_rfl)) (by decide) (fun K hK => ?_)
              refine goes_ Tryd.func26 (by kernel_rfl) rfl #[.int .u64 a0_2] (by rfl) rfl rfl (by (try simp only [List.map_toArray, List.map_cons, List.map_nil]); first | done | rfl | (simp only [List.length_drop, List.length_take]; rfl)) ?_
              with_reducible refine (name_Hex.calls a0_2 t131 _ A6.out).mono ?_
              rintro e w19 ⟨rfl, hb⟩
              refine ⟨_, rfl, ?_⟩
              have n0_ := Aside0.mk (blk_below (g := gb128) (o := .cells #[.int .u64 a0_0, .int .u64 a0_1, .int .u64 a0_2, .int .u64 a0_3, .int .u64 a0_4, .int .u64 a0_5] 30 (0, 0)) (by (with_reducible repeat (first | refine blk_drewN ?_ _ | refine blk_drew ?_ | refine blk_alloc ?_ _)); exact BK128.out) hb)
              have n1_ := Aside0.mk (below_step (by repeat (first | (with_reducible first | exact HB.out | apply below_alloc | apply pw_below_drewN | apply below_drew1 | refine below_set ?_ GE128.out) | exact HB.out)) hb)
              clear BK128
              clear HB
              have BK128 := n0_
              have HB := n1_
              clear n0_ n1_
              (try clear hb)
              (try clear hb2)
              (try clear hk)
              (try clear hi)
              refine hK.out _ _ ⟨(blk_cell BK128.out 0).trans rfl, (blk_cell BK128.out 1).trans rfl, (blk_cell BK128.out 2).trans rfl, (blk_cell BK128.out 3).trans rfl, (blk_cell BK128.out 4).trans rfl, (blk_cell BK128.out 5).trans rfl⟩ (fun hHeld => ?_)
              clear hK K
              refine norm_ (a' := ?_) ?_ ?_
              rotate_left
              · show Act.put _ (some 14) _ = _
                simp only [Act.put, List.setIfInBounds_toArray, List.set_cons_zero, List.set_cons_succ, i64_w, i32_w]
                rfl
              refine pure_ (i := 11) (N := some 15) (v := ?_) (a' := ?_) #[true, true, true, true, true, true, true, true, true, true, true, true, true, true, false, false, true, true, false, false, true, true, false, false, false, false] rfl rfl (any_of HT_.out (by kernel_rfl)) (fun _ _ _ h => h) (Or.inl ⟨by rfl, ?_⟩) ?_ ?_
              rotate_left
              · intro w'
                go_simp
                with_reducible rfl
              rotate_left
              · simp only [Act.put, List.setIfInBounds_toArray, List.set_cons_zero, List.set_cons_succ, i64_w, i32_w]
                rfl
              refine one_ (i := 14) (N := some 18) #[true, true, true, true, true, true, true, true, true, true, true, true, true, true, true, false, true, true, false, false, true, true, false, false, false, false] rfl rfl (one_of HT_.out (by kernel_rfl)) (by decide) (fun K hK => ?_)
              refine goes_ Tryd.func44 (by kernel_rfl) rfl #[.int .u64 a0_3] (by rfl) rfl rfl (by (try simp only [List.map_toArray, List.map_cons, List.map_nil]); first | done | rfl | (simp only [List.length_drop, List.length_take]; rfl)) ?_
              with_reducible refine (cursor_Hex.calls k a0_3 t132 _ A8.out).mono ?_
              rintro e w20 ⟨rfl, hb⟩
              refine ⟨_, rfl, ?_⟩
              have n0_ := Aside0.mk (blk_below (g := gb128) (o := .cells #[.int .u64 a0_0, .int .u64 a0_1, .int .u64 a0_2, .int .u64 a0_3, .int .u64 a0_4, .int .u64 a0_5] 30 (0, 0)) (by (with_reducible repeat (first | refine blk_drewN ?_ _ | refine blk_drew ?_ | refine blk_alloc ?_ _)); exact BK128.out) hb)
              have n1_ := Aside0.mk (below_step (by repeat (first | (with_reducible first | exact HB.out | apply below_alloc | apply pw_below_drewN | apply below_drew1 | refine below_set ?_ GE128.out) | exact HB.out)) hb)
              clear BK128
              clear HB
              have BK128 := n0_
              have HB := n1_
              clear n0_ n1_
              (try clear hb)
              (try clear hb2)
              (try clear hk)
              (try clear hi)
              refine hK.out _ _ ⟨(blk_cell BK128.out 0).trans rfl, (blk_cell BK128.out 1).trans rfl, (blk_cell BK128.out 2).trans rfl, (blk_cell BK128.out 3).trans rfl, (blk_cell BK128.out 4).trans rfl, (blk_cell BK128.out 5).trans rfl⟩ (fun hHeld => ?_)
              clear hK K
              refine norm_ (a' := ?_) ?_ ?_
              rotate_left
              · show Act.put _ (some 18) _ = _
                simp only [Act.put, List.setIfInBounds_toArray, List.set_cons_zero, List.set_cons_succ, i64_w, i32_w]
                rfl
              refine pure_ (i := 15) (N := some 19) (v := ?_) (a' := ?_) #[true, true, true, true, true, true, true, true, true, true, true, true, true, true, true, true, true, true, false, false, true, true, false, false, false, false] rfl rfl (any_of HT_.out (by kernel_rfl)) (fun _ _ _ h => h) (Or.inl ⟨by rfl, ?_⟩) ?_ ?_
              rotate_left
              · intro w'
                go_simp
                with_reducible rfl
              rotate_left
              · simp only [Act.put, List.setIfInBounds_toArray, List.set_cons_zero, List.set_cons_succ, i64_w, i32_w]
                rfl
              refine one_ (i := 18) (N := some 22) #[true, true, true, true, true, true, true, true, true, true, true, true, true, true, true, true, true, true, true, false, true, true, false, false, false, false] rfl rfl (one_of HT_.out (by kernel_rfl)) (by decide) (fun K hK => ?_)
              refine goes_ Tryd.func44 (by kernel_rfl) rfl #[.int .u64 a0_4] (by rfl) rfl rfl (by (try simp only [List.map_toArray, List.map_cons, List.map_nil]); first | done | rfl | (simp only [List.length_drop, List.length_take]; rfl)) ?_
              with_reducible refine (cursor_Hex.calls k a0_4 t133 _ A10.out).mono ?_
              rintro e w21 ⟨rfl, hb⟩
              refine ⟨_, rfl, ?_⟩
              have n0_ := Aside0.mk (blk_below (g := gb128) (o := .cells #[.int .u64 a0_0, .int .u64 a0_1, .int .u64 a0_2, .int .u64 a0_3, .int .u64 a0_4, .int .u64 a0_5] 30 (0, 0)) (by (with_reducible repeat (first | refine blk_drewN ?_ _ | refine blk_drew ?_ | refine blk_alloc ?_ _)); exact BK128.out) hb)
              have n1_ := Aside0.mk (below_step (by repeat (first | (with_reducible first | exact HB.out | apply below_alloc | apply pw_below_drewN | apply below_drew1 | refine below_set ?_ GE128.out) | exact HB.out)) hb)
              clear BK128
              clear HB
              have BK128 := n0_
              have HB := n1_
              clear n0_ n1_
              (try clear hb)
              (try clear hb2)
              (try clear hk)
              (try clear hi)
              refine hK.out _ _ ⟨(blk_cell BK128.out 0).trans rfl, (blk_cell BK128.out 1).trans rfl, (blk_cell BK128.out 2).trans rfl, (blk_cell BK128.out 3).trans rfl, (blk_cell BK128.out 4).trans rfl, (blk_cell BK128.out 5).trans rfl⟩ (fun hHeld => ?_)
              clear hK K
              refine norm_ (a' := ?_) ?_ ?_
              rotate_left
              · show Act.put _ (some 22) _ = _
                simp only [Act.put, List.setIfInBounds_toArray, List.set_cons_zero, List.set_cons_succ, i64_w, i32_w]
                rfl
              refine pure_ (i := 19) (N := some 23) (v := ?_) (a' := ?_) #[true, true, true, true, true, true, true, true, true, true, true, true, true, true, true, true, true, true, true, true, true, true, false, false, false, false] rfl rfl (any_of HT_.out (by kernel_rfl)) (fun _ _ _ h => h) (Or.inl ⟨by rfl, ?_⟩) ?_ ?_
              rotate_left
              · intro w'
                go_simp
                with_reducible rfl
              rotate_left
              · simp only [Act.put, List.setIfInBounds_toArray, List.set_cons_zero, List.set_cons_succ, i64_w, i32_w]
                rfl
              refine one_ (i := 22) (N := some 26) #[true, true, true, true, true, true, true, true, true, true, true, true, true, true, true, true, true, true, true, true, true, true, true, false, false, false] rfl rfl (one_of HT_.out (by kernel_rfl)) (by decide) (fun K hK => ?_)
              refine goes_ Tryd.func44 (by kernel_rfl) rfl #[.int .u64 a0_5] (by rfl) rfl rfl (by (try simp only [List.map_toArray, List.map_cons, List.map_nil]); first | done | rfl | (simp only [List.length_drop, List.length_take]; rfl)) ?_
              with_reducible refine (cursor_Hex.calls k a0_5 t134 _ A12.out).mono ?_
              rintro e w22 ⟨rfl, hb⟩
              refine ⟨_, rfl, ?_⟩
              have n0_ := Aside0.mk (blk_below (g := gb128) (o := .cells #[.int .u64 a0_0, .int .u64 a0_1, .int .u64 a0_2, .int .u64 a0_3, .int .u64 a0_4, .int .u64 a0_5] 30 (0, 0)) (by (with_reducible repeat (first | refine blk_drewN ?_ _ | refine blk_drew ?_ | refine blk_alloc ?_ _)); exact BK128.out) hb)
              have n1_ := Aside0.mk (below_step (by repeat (first | (with_reducible first | exact HB.out | apply below_alloc | apply pw_below_drewN | apply below_drew1 | refine below_set ?_ GE128.out) | exact HB.out)) hb)
              clear BK128
              clear HB
              have BK128 := n0_
              have HB := n1_
              clear n0_ n1_
              (try clear hb)
              (try clear hb2)
              (try clear hk)
              (try clear hi)
              refine hK.out _ _ ⟨(blk_cell BK128.out 0).trans rfl, (blk_cell BK128.out 1).trans rfl, (blk_cell BK128.out 2).trans rfl, (blk_cell BK128.out 3).trans rfl, (blk_cell BK128.out 4).trans rfl, (blk_cell BK128.out 5).trans rfl⟩ (fun hHeld => ?_)
              clear hK K
              refine norm_ (a' := ?_) ?_ ?_
              rotate_left
              · show Act.put _ (some 26) _ = _
                simp only [Act.put, List.setIfInBounds_toArray, List.set_cons_zero, List.set_cons_succ, i64_w, i32_w]
                rfl
              refine pure_ (i := 23) (N := some 27) (v := ?_) (a' := ?_) #[true, true, true, true, true, true, true, true, true, true, true, true, true, true, true, true, true, true, true, true, true, true, true, true, false, false] rfl rfl (any_of HT_.out (by kernel_rfl)) (fun _ _ _ h => h) (Or.inl ⟨by rfl, ?_⟩) ?_ ?_
              rotate_left
              · intro w'
                go_simp
                with_reducible rfl
              rotate_left
              · simp only [Act.put, List.setIfInBounds_toArray, List.set_cons_zero, List.set_cons_succ, i64_w, i32_w]
                rfl
              refine one_ (i := 24) (N := some 28) #[true, true, true, true, true, true, true, true, true, true, true, true, true, true, true, true, true, true, true, true, true, true, true, true, true, false] rfl rfl (one_of HT_.out (by kernel_rfl)) (by decide) (fun K hK => ?_)
              refine Kd.R_lit_step Kd.string _ 9 ?hg (N := 28) ?hd (xs := ([(⟨#[115, 61]⟩ : ByteArray) ++ t129, (⟨#[105, 61]⟩ : ByteArray) ++ t130, (⟨#[98, 61]⟩ : ByteArray) ++ t131, (⟨#[109, 61]⟩ : ByteArray) ++ t132, (⟨#[116, 61]⟩ : ByteArray) ++ t133, (⟨#[120, 61]⟩ : ByteArray) ++ t134] : List ByteArray)) (inner := [.string ((⟨#[115, 61]⟩ : ByteArray) ++ t129), .string ((⟨#[105, 61]⟩ : ByteArray) ++ t130), .string ((⟨#[98, 61]⟩ : ByteArray) ++ t131), .string ((⟨#[109, 61]⟩ : ByteArray) ++ t132), .string ((⟨#[116, 61]⟩ : ByteArray) ++ t133), .string ((⟨#[120, 61]⟩ : ByteArray) ++ t134)]) (ok := fun _ => True) (okp := fun _ => True) ?hr ?hp (fun _ hk => hk) trivial (Below.refl _ _) (Nat.le_refl _) (by simp) ?_; (case hd => rfl); (case hg => rfl); (case hr => first | (go_simp; done) | (go_simp; rfl)); (case hp => exact (Reps.one (show Kd.M Kd.string _ _ _ ((⟨#[115, 61]⟩ : ByteArray) ++ t129) [.string ((⟨#[115, 61]⟩ : ByteArray) ++ t129)] from rfl) (Reps.one (show Kd.M Kd.string _ _ _ ((⟨#[105, 61]⟩ : ByteArray) ++ t130) [.string ((⟨#[105, 61]⟩ : ByteArray) ++ t130)] from rfl) (Reps.one (show Kd.M Kd.string _ _ _ ((⟨#[98, 61]⟩ : ByteArray) ++ t131) [.string ((⟨#[98, 61]⟩ : ByteArray) ++ t131)] from rfl) (Reps.one (show Kd.M Kd.string _ _ _ ((⟨#[109, 61]⟩ : ByteArray) ++ t132) [.string ((⟨#[109, 61]⟩ : ByteArray) ++ t132)] from rfl) (Reps.one (show Kd.M Kd.string _ _ _ ((⟨#[116, 61]⟩ : ByteArray) ++ t133) [.string ((⟨#[116, 61]⟩ : ByteArray) ++ t133)] from rfl) (Reps.one (show Kd.M Kd.string _ _ _ ((⟨#[120, 61]⟩ : ByteArray) ++ t134) [.string ((⟨#[120, 61]⟩ : ByteArray) ++ t134)] from rfl) (Reps.none _ _))))))))
              intro v136 w23 ho24 hb hg_ hnew_
              clear hg_ hnew_
              (first | rw [← Ny135.out] at ho24 | (simp only [Int.reduceToNat] at ho24; rw [← Ny135.out] at ho24))
              have n0_ := Aside0.mk (Kd.R_lower ho24 (below_size (by repeat (first | (with_reducible first | exact HB.out | apply below_alloc | apply pw_below_drewN | apply below_drew1 | refine below_set ?_ GE128.out) | exact HB.out))))
              have n1_ := Aside0.mk (blk_below (g := gb128) (o := .cells #[.int .u64 a0_0, .int .u64 a0_1, .int .u64 a0_2, .int .u64 a0_3, .int .u64 a0_4, .int .u64 a0_5] 30 (0, 0)) (by (with_reducible repeat (first | refine blk_drewN ?_ _ | refine blk_drew ?_ | refine blk_alloc ?_ _)); exact BK128.out) hb)
              have n2_ := Aside0.mk (below_step (by repeat (first | (with_reducible first | exact HB.out | apply below_alloc | apply pw_below_drewN | apply below_drew1 | refine below_set ?_ GE128.out) | exact HB.out)) hb)
              clear BK128
              clear HB
              have HO137 := n0_
              have BK128 := n1_
              have HB := n2_
              clear n0_ n1_ n2_
              clear hb ho24
              refine hK.out _ _ ⟨(blk_cell BK128.out 0).trans rfl, (blk_cell BK128.out 1).trans rfl, (blk_cell BK128.out 2).trans rfl, (blk_cell BK128.out 3).trans rfl, (blk_cell BK128.out 4).trans rfl, (blk_cell BK128.out 5).trans rfl⟩ (fun hHeld => ?_)
              clear hK K
              refine norm_ (a' := ?_) ?_ ?_
              rotate_left
              · show Act.put _ (some 28) _ = _
                simp only [Act.put, List.setIfInBounds_toArray, List.set_cons_zero, List.set_cons_succ, i64_w, i32_w]
                rfl
              refine pure_ (i := 25) (N := some 3) (v := ?_) (a' := ?_) #[true, true, true, true, true, true, true, true, true, true, true, true, true, true, true, true, true, true, true, true, true, true, true, true, true, true] rfl rfl (any_of HT_.out (by kernel_rfl)) (fun _ _ _ h => h) (Or.inl ⟨by rfl, ?_⟩) ?_ ?_
              rotate_left
              · intro w'
                go_simp
                with_reducible rfl
              rotate_left
              · simp only [Act.put, List.setIfInBounds_toArray, List.set_cons_zero, List.set_cons_succ, i64_w, i32_w]
                rfl
              refine done_ (done_of HT_.out (by kernel_rfl)) ?_
              obtain ⟨Ao25, co25, eo25⟩ := Kd.R_slice HO137.out
              subst eo25
              try go_wp2_with (first | ((with_reducible refine gate_callee (f := 45) rfl ?_); refine goesL_ (some 30) rfl rfl Tryd.func45 (by kernel_rfl) rfl #[.slice Ao25 y135.length co25, .string (⟨#[59]⟩ : ByteArray)] rfl (by (try simp only [List.map_toArray, List.map_cons, List.map_nil]); first | done | rfl | (simp only [List.length_drop, List.length_take]; rfl)) ?_; (with_reducible refine (strings_Join.calls _ _ y135 (⟨#[59]⟩ : ByteArray) t138 _ ?side1 ?side2 A14.out).mono ?_); (case side1 => repeat (first | exact (Kd.R_reads' HO137.out).2.2 | (with_reducible refine Kd.C_alloc ?_ _) | (with_reducible refine Kd.C_drewN ?_ _) | (with_reducible refine Kd.C_drew ?_))); (case side2 => exact (Kd.R_reads' HO137.out).2.1); rintro e w26 ⟨rfl, hb⟩; refine ⟨_, rfl, ?_⟩; have n0_ := Aside0.mk (Kd.R_below (by (with_reducible repeat (first | apply Kd.R_alloc | apply Kd.R_drewN | apply Kd.R_drew)); exact HO137.out) hb); have n1_ := Aside0.mk (blk_below (g := gb128) (o := .cells #[.int .u64 a0_0, .int .u64 a0_1, .int .u64 a0_2, .int .u64 a0_3, .int .u64 a0_4, .int .u64 a0_5] 30 (0, 0)) (by (with_reducible repeat (first | refine blk_drewN ?_ _ | refine blk_drew ?_ | refine blk_alloc ?_ _)); exact BK128.out) hb); have n2_ := Aside0.mk (below_step (by repeat (first | (with_reducible first | exact HB.out | apply below_alloc | apply pw_below_drewN | apply below_drew1 | refine below_set ?_ GE128.out) | exact HB.out)) hb); clear HO137; clear BK128; clear HB; have HO137 := n0_; have BK128 := n1_; have HB := n2_; clear n0_ n1_ n2_; (try clear hb); (try clear hb2); (try clear hk); (try clear hi)))
              go_ret
              exact ⟨by first | rfl | (simp [errW_none, errW_some] <;> rfl) | (simp [*, errW_none, errW_some] <;> rfl), by repeat (first | (with_reducible first | exact HB.out | apply below_alloc | apply pw_below_drewN | apply below_drew1 | refine below_set ?_ GE128.out) | exact HB.out)⟩
            · rw [if_neg c13] at H
              exact absurd H (by simp)
          · rw [if_neg c11] at H
            exact absurd H (by simp)
        · rw [if_neg c9] at H
          exact absurd H (by simp)
      · rw [if_neg c7] at H
        exact absurd H (by simp)
    · rw [if_neg c5] at H
      exact absurd H (by simp)
  · rw [if_neg c3] at H
    exact absurd H (by simp)

-- GIVEN rounds=1 making=1 bld needs=(logbook/cursor.Cursor).Text,logbook/export.Decimal,logbook/name.Hex,logbook/export.Item
/-! ### export.Entry: by hand: a row of pairs, and a builder -/
abbrev ekAt : ByteArray := ⟨#[95, 95, 67, 85, 82, 83, 79, 82]⟩
abbrev ekWall : ByteArray := ⟨#[95, 95, 82, 69, 65, 76, 84, 73, 77, 69, 95, 84, 73, 77, 69, 83, 84, 65, 77, 80]⟩
abbrev ekMono : ByteArray := ⟨#[95, 95, 77, 79, 78, 79, 84, 79, 78, 73, 67, 95, 84, 73, 77, 69, 83, 84, 65, 77, 80]⟩
abbrev ekBoot : ByteArray := ⟨#[95, 95, 66, 79, 79, 84, 95, 73, 68]⟩
abbrev ekSeq : ByteArray := ⟨#[95, 95, 83, 69, 81, 78, 85, 77]⟩
abbrev ekId : ByteArray := ⟨#[95, 95, 83, 69, 81, 78, 85, 77, 95, 73, 68]⟩
def eLine (p : ByteArray × ByteArray) : ByteArray := ((p.1 ++ (⟨#[61]⟩ : ByteArray)) ++ p.2) ++ (⟨#[10]⟩ : ByteArray)
def eLines : ByteArray → List (ByteArray × ByteArray) → ByteArray
  | a, [] => a
  | a, p :: r => eLines (a ++ eLine p) r
def eItems (k : Nat) : ByteArray → List ByteArray → Option ByteArray
  | a, [] => some a
  | a, x :: r => (export_Item.f x).bind fun t => if (a ++ t).size ≤ 140737488355327 then eItems k (a ++ t) r else none
def ePairs (t d4 d3 h2 d1 h0 : ByteArray) : List (ByteArray × ByteArray) := [(ekAt, t), (ekWall, d4), (ekMono, d3), (ekBoot, h2), (ekSeq, d1), (ekId, h0)]
def export_Entry.f (k : Nat) (a0_0 : Int) (a0_1 : Int) (a0_2 : Int) (a0_3 : Int) (a0_4 : Int) (a0_5 : Int) (l1 : List ByteArray) : Option ByteArray :=
  (cursor_Cursor_Text.f k a0_0 a0_1 a0_2 a0_3 a0_4 a0_5).bind fun t => (export_Decimal.f k a0_4).bind fun d4 => (export_Decimal.f k a0_3).bind fun d3 => (name_Hex.f a0_2).bind fun h2 => (export_Decimal.f k a0_1).bind fun d1 => (name_Hex.f a0_0).bind fun h0 =>
  if (∀ p ∈ ePairs t d4 d3 h2 d1 h0, p.2.size ≤ 1000) then (eItems k (eLines (⟨#[]⟩ : ByteArray) (ePairs t d4 d3 h2 d1 h0)) l1).bind fun s => if s.size + 1 ≤ 140737488355327 then some (s ++ (⟨#[10]⟩ : ByteArray)) else none else none
theorem eItems.mono : ∀ (l : List ByteArray) (k : Nat) (a : ByteArray), LeO (eItems k a l) (eItems (k + 1) a l)
  | [], _, _ => LeO.refl _
  | x :: r, k, a => by
    unfold eItems
    refine LeO.bind (LeO.refl _) (fun t => ?_)
    refine LeO.ite (eItems.mono r k (a ++ t)) (LeO.refl _)
theorem export_Entry.mono : ∀ (a0_0 a0_1 a0_2 a0_3 a0_4 a0_5 : Int) (l1 : List ByteArray) (k : Nat), LeO (export_Entry.f k a0_0 a0_1 a0_2 a0_3 a0_4 a0_5 l1) (export_Entry.f (k + 1) a0_0 a0_1 a0_2 a0_3 a0_4 a0_5 l1) := by
  intro a0_0 a0_1 a0_2 a0_3 a0_4 a0_5 l1 k
  unfold export_Entry.f
  refine LeO.bind (cursor_Cursor_Text.mono _ _ _ _ _ _ k) (fun t => LeO.bind (export_Decimal.mono _ k) (fun d4 => LeO.bind (export_Decimal.mono _ k) (fun d3 => LeO.bind (LeO.refl _) (fun h2 => LeO.bind (export_Decimal.mono _ k) (fun d1 => LeO.bind (LeO.refl _) (fun h0 => LeO.ite (LeO.bind (eItems.mono _ _ _) (fun s => LeO.refl _)) (LeO.refl _)))))))
theorem strCells_append (a b : ByteArray) : Lib.strCells (a ++ b) = Lib.strCells a ++ Lib.strCells b := by
  unfold Lib.strCells
  rw [← List.map_append]
  congr 1
theorem ebld_text (B b : Nat) (s : ByteArray) (w : World) (h : Lib.IsBuilder 55 5 B b (Lib.strCells s) w) (hBw : B ≤ w.heap.size) :
    Calls Tryd.prog 28 #[.pointer (some ⟨b, 0, none⟩)] w fun e w' => e = .returned (.string s) ∧ Below B w w' := by
  rw [Lib.strCells_eq] at h
  exact Tryd.Builder_String_any B b _ w h hBw
theorem eItems_step {k : Nat} {a x : ByteArray} {r : List ByteArray} {s : ByteArray} (h : eItems k a (x :: r) = some s) : ∃ t, export_Item.f x = some t ∧ (a ++ t).size ≤ 140737488355327 ∧ eItems k (a ++ t) r = some s := by
  unfold eItems at h
  obtain ⟨t, h1, h2⟩ := Option.bind_eq_some_iff.1 h
  by_cases hc : (a ++ t).size ≤ 140737488355327
  · rw [if_pos hc] at h2
    exact ⟨t, h1, hc, h2⟩
  · rw [if_neg hc] at h2
    cases h2
theorem ePairs_keys (t d4 d3 h2 d1 h0 : ByteArray) : ∀ p ∈ ePairs t d4 d3 h2 d1 h0, p.1.size ≤ 100 := by
  intro p hp
  simp only [ePairs, List.mem_cons, List.not_mem_nil, or_false] at hp
  rcases hp with rfl | rfl | rfl | rfl | rfl | rfl
  · exact (by decide : ekAt.size ≤ 100)
  · exact (by decide : ekWall.size ≤ 100)
  · exact (by decide : ekMono.size ≤ 100)
  · exact (by decide : ekBoot.size ≤ 100)
  · exact (by decide : ekSeq.size ≤ 100)
  · exact (by decide : ekId.size ≤ 100)
theorem eLines_max : ∀ (l : List (ByteArray × ByteArray)) (a : ByteArray), (∀ p ∈ l, p.1.size ≤ 100) → (∀ p ∈ l, p.2.size ≤ 1000) → (eLines a l).size ≤ a.size + 1102 * l.length
  | [], a, _, _ => by
    show a.size ≤ _
    omega
  | p :: r, a, h1, h2 => by
    have ih := eLines_max r (a ++ eLine p) (fun q hq => h1 q (List.mem_cons_of_mem _ hq)) (fun q hq => h2 q (List.mem_cons_of_mem _ hq))
    have k1 := h1 p (by simp)
    have k2 := h2 p (by simp)
    have e : (a ++ eLine p).size = a.size + (p.1.size + 1 + p.2.size + 1) := by
      unfold eLine
      rw [ByteArray.size_append, ByteArray.size_append, ByteArray.size_append, ByteArray.size_append]
      rfl
    rw [e] at ih
    show (eLines (a ++ eLine p) r).size ≤ _
    rw [List.length_cons]
    omega
theorem eLines_size (l : List (ByteArray × ByteArray)) (q : Nat) (a : ByteArray) (h2 : ∀ p ∈ l, p.2.size ≤ 1000) (h1 : ∀ p ∈ l, p.1.size ≤ 100 := by first | assumption | exact ePairs_keys _ _ _ _ _ _) (hq : q ≤ 6 := by omega) : (eLines a (l.take q)).size ≤ a.size + 6612 := by
  have h := eLines_max (l.take q) a (fun p hp => h1 p (List.mem_of_mem_take hp)) (fun p hp => h2 p (List.mem_of_mem_take hp))
  have hl : (l.take q).length ≤ q := by
    rw [List.length_take]
    omega
  omega
theorem snoc10 (a : ByteArray) : (a ++ (⟨#[10]⟩ : ByteArray)).size = a.size + 1 := ByteArray.size_append
theorem snoc61 (a : ByteArray) : (a ++ (⟨#[61]⟩ : ByteArray)).size = a.size + 1 := ByteArray.size_append
theorem eNone (a : ByteArray) (h : a = (⟨#[]⟩ : ByteArray)) : a.size = 0 := by rw [h]; rfl
theorem ekeep {W0 W W' : World} (hb : Below W.heap.size W W') (h : Below W0.heap.size W0 W) : Below W0.heap.size W0 W' := h.trans (hb.mono h.size)
def eBox (a0 a1 a2 a3 a4 a5 : Int) : Array Value := #[.int .u64 a0, .int .u64 a1, .int .u64 a2, .int .u64 a3, .int .u64 a4, .int .u64 a5]
def eRow (t d4 d3 h2 d1 h0 : ByteArray) : Array Value := #[.string ekAt, .string t, .string ekWall, .string d4, .string ekMono, .string d3, .string ekBoot, .string h2, .string ekSeq, .string d1, .string ekId, .string h0]
set_option maxHeartbeats 6400000 in
set_option maxRecDepth 100000 in
theorem export_Entry.calls (k : Nat) (a0_0 : Int) (a0_1 : Int) (a0_2 : Int) (a0_3 : Int) (a0_4 : Int) (a0_5 : Int) (A1 : Option Addr) (c1 : Nat) (l1 : List ByteArray) (r : ByteArray) (w : World) (hr1 : Kd.C Kd.string w A1 l1.length l1) (hc1 : l1.length ≤ c1) (h : export_Entry.f k a0_0 a0_1 a0_2 a0_3 a0_4 a0_5 l1 = some r) :
    Calls Tryd.prog 10 #[.agg #[.int .u64 a0_0, .int .u64 a0_1, .int .u64 a0_2, .int .u64 a0_3, .int .u64 a0_4, .int .u64 a0_5], .slice A1 l1.length c1] w fun e w' => e = .returned (.string r) ∧ Below w.heap.size w w' := by
  unfold export_Entry.f at h
  obtain ⟨t, h1, g1⟩ := Option.bind_eq_some_iff.1 h
  clear h
  obtain ⟨d4, h2, g2⟩ := Option.bind_eq_some_iff.1 g1
  clear g1
  obtain ⟨d3, h3, g3⟩ := Option.bind_eq_some_iff.1 g2
  clear g2
  obtain ⟨x2, h4, g4⟩ := Option.bind_eq_some_iff.1 g3
  clear g3
  obtain ⟨d1, h5, g5⟩ := Option.bind_eq_some_iff.1 g4
  clear g4
  obtain ⟨x0, h6, h⟩ := Option.bind_eq_some_iff.1 g5
  clear g5
  by_cases hp : ∀ p ∈ ePairs t d4 d3 x2 d1 x0, p.2.size ≤ 1000
  case neg => rw [if_neg hp] at h; cases h
  rw [if_pos hp] at h
  obtain ⟨s, h7, g7⟩ := Option.bind_eq_some_iff.1 h
  clear h
  by_cases hs : s.size + 1 ≤ 140737488355327
  case neg => rw [if_neg hs] at g7; cases g7
  rw [if_pos hs] at g7
  have HRES := Lib.hid (Option.some.inj g7)
  have HT := Lib.hid (fun W => cursor_Cursor_Text.calls k a0_0 a0_1 a0_2 a0_3 a0_4 a0_5 t W h1)
  have HD4 := Lib.hid (fun W => export_Decimal.calls k a0_4 d4 W h2)
  have HD3 := Lib.hid (fun W => export_Decimal.calls k a0_3 d3 W h3)
  have HX2 := Lib.hid (fun W => name_Hex.calls a0_2 x2 W h4)
  have HD1 := Lib.hid (fun W => export_Decimal.calls k a0_1 d1 W h5)
  have HX0 := Lib.hid (fun W => name_Hex.calls a0_0 x0 W h6)
  have HIT := Lib.hid h7
  have HS := Lib.hid hs
  have HP := Lib.hid hp
  have HR1 := Lib.hid hr1
  clear g7 h1 h2 h3 h4 h5 h6 h7 hp hs hr1 hc1
  have hI0 := bld_new 55 5 (w.alloc (.cells #[.int .u64 a0_0, .int .u64 a0_1, .int .u64 a0_2, .int .u64 a0_3, .int .u64 a0_4, .int .u64 a0_5] 30))
  rw [show (w.alloc (.cells #[.int .u64 a0_0, .int .u64 a0_1, .int .u64 a0_2, .int .u64 a0_3, .int .u64 a0_4, .int .u64 a0_5] 30)).heap.size = w.heap.size + 1 by simp] at hI0
  have HI0 := Lib.hid hI0
  have HBX := Lib.hid (blk_alloc (heap_alloc_new w (.cells #[.int .u64 a0_0, .int .u64 a0_1, .int .u64 a0_2, .int .u64 a0_3, .int .u64 a0_4, .int .u64 a0_5] 30)) (.cells #[.pointer none, .slice none 0 0] 55))
  have HB := Lib.hid (((Below.refl w.heap.size w).alloc (Nat.le_refl _) (.cells #[.int .u64 a0_0, .int .u64 a0_1, .int .u64 a0_2, .int .u64 a0_3, .int .u64 a0_4, .int .u64 a0_5] 30)).alloc (by simp) (.cells #[.pointer none, .slice none 0 0] 55))
  have HSZ := Lib.hid (show ((w.alloc (.cells #[.int .u64 a0_0, .int .u64 a0_1, .int .u64 a0_2, .int .u64 a0_3, .int .u64 a0_4, .int .u64 a0_5] 30)).alloc (.cells #[.pointer none, .slice none 0 0] 55)).heap.size = w.heap.size + 2 by simp)
  clear hI0
  go_enter Tryd.func10, Tryd.ntmps10
  go_upto_region 2 with fail
  generalize hW0 : (w.alloc (.cells #[.int .u64 a0_0, .int .u64 a0_1, .int .u64 a0_2, .int .u64 a0_3, .int .u64 a0_4, .int .u64 a0_5] 30)).alloc (.cells #[.pointer none, .slice none 0 0] 55) = W0 at HI0 HBX HB HSZ ⊢
  clear hW0
  have HV : Hid (Below W0.heap.size W0 W0) := Lib.hid (Below.refl _ _)
  have b0 := blk_cell HBX.out 0
  have b1 := blk_cell HBX.out 1
  have b2 := blk_cell HBX.out 2
  have b3 := blk_cell HBX.out 3
  have b4 := blk_cell HBX.out 4
  have b5 := blk_cell HBX.out 5
  simp at b0 b1 b2 b3 b4 b5
  go_cut [33, 34, 35] (fun v33 v34 v35 wx => ∃ g : Nat, v33 = .slice (some ⟨g, 0, none⟩) 6 6 ∧ v34 = .int .i64 6 ∧ v35 = .int .i64 0 ∧ Hid (wx.heap[g]? = some (.cells (eRow t d4 d3 x2 d1 x0) 57 (0, 0))) ∧ Hid (W0.heap.size ≤ g) ∧ Hid (Below W0.heap.size W0 wx))
  case first =>
    clear HV
    have hv0 : Below W0.heap.size W0 W0.drew := (Below.refl _ _).drew
    go_region_held3 (fun w' => w'.cell? ⟨w.heap.size, 0, none⟩ = some (.int .u64 a0_0) ∧ w'.cell? ⟨w.heap.size, 1, none⟩ = some (.int .u64 a0_1) ∧ w'.cell? ⟨w.heap.size, 2, none⟩ = some (.int .u64 a0_2) ∧ w'.cell? ⟨w.heap.size, 3, none⟩ = some (.int .u64 a0_3) ∧ w'.cell? ⟨w.heap.size, 4, none⟩ = some (.int .u64 a0_4) ∧ w'.cell? ⟨w.heap.size, 5, none⟩ = some (.int .u64 a0_5) ∧ Below W0.heap.size W0 w')
      (first
        | (try dsimp only
           repeat' apply And.intro
           all_goals (first | assumption | exact cell_later hb (by assumption) | (refine cell_later ?_ ?_ <;> assumption) | (refine Below.drew ?_; assumption) | go_keep | (refine ekeep (below_alloc (Below.refl _ _) _) ?_; assumption) | (refine cell_later (below_alloc (Below.refl _ _) _) ?_; assumption))))
      (first
      | (go_at_call 25; (with_reducible refine (HT.out _).mono ?_); rintro e w' ⟨rfl, hb⟩; (try go_split_ands); have hv1 := ekeep hb (by assumption))
      | (go_at_call 18; (with_reducible refine (HD4.out _).mono ?_); rintro e w' ⟨rfl, hb⟩; (try go_split_ands); have hv1 := ekeep hb (by assumption))
      | (go_at_call 18; (with_reducible refine (HD3.out _).mono ?_); rintro e w' ⟨rfl, hb⟩; (try go_split_ands); have hv1 := ekeep hb (by assumption))
      | (go_at_call 26; (with_reducible refine (HX2.out _).mono ?_); rintro e w' ⟨rfl, hb⟩; (try go_split_ands); have hv1 := ekeep hb (by assumption))
      | (go_at_call 18; (with_reducible refine (HD1.out _).mono ?_); rintro e w' ⟨rfl, hb⟩; (try go_split_ands); have hv1 := ekeep hb (by assumption))
      | (go_at_call 26; (with_reducible refine (HX0.out _).mono ?_); rintro e w' ⟨rfl, hb⟩; (try go_split_ands); have hv1 := ekeep hb (by assumption)))
    all_goals
      go_wp2_with fail
      go_meet
      exact ⟨_, rfl, rfl, rfl, Lib.hid (heap_alloc_new _ _), Lib.hid hv1.size, Lib.hid (hv1.alloc hv1.size _)⟩
  case rest =>
    obtain ⟨g, rfl, rfl, rfl, hrow, hgg, hv⟩ := hcut
    have HI := Lib.hid (bld_keep (w' := wc) HI0.out (fun k hk => hv.out.block k hk))
    have HBW : Hid (Below w.heap.size w wc) := Lib.hid (HB.out.trans (hv.out.mono HB.out.size))
    have HG : Hid (w.heap.size + 2 ≤ g) := Lib.hid (by have := HSZ.out; have := hgg.out; omega)
    clear HT HD4 HD3 HX2 HD1 HX0 HI0 HBX HB HSZ HV b0 b1 b2 b3 b4 b5 hgg hv
    go_wp2
    go_loopw [35] (fun i wr => ∃ q : Nat, q ≤ 6 ∧ i = .int .i64 q ∧ Hid (Lib.IsBuilder 55 5 (w.heap.size + 1) (w.heap.size + 1) (Lib.strCells (eLines (⟨#[]⟩ : ByteArray) ((ePairs t d4 d3 x2 d1 x0).take q))) wr) ∧ Hid (wr.heap[g]? = some (.cells (eRow t d4 d3 x2 d1 x0) 57 (0, 0))) ∧ Hid (Below w.heap.size w wr)) (fun i _ => 6 - (intOf i).toNat)
    case atStart => exact ⟨0, Nat.zero_le _, rfl, HI, hrow, HBW⟩
    case round =>
      obtain ⟨q, hq, rfl, hbld, hrw, hbel⟩ := hrel
      by_cases hlt : q < 6
      · have hkey : ∃ kq vq : ByteArray, wr.cell? ⟨g, q * 2, none⟩ = some (.string kq) ∧ wr.cell? ⟨g, q * 2 + 1, none⟩ = some (.string vq) ∧ eLines (⟨#[]⟩ : ByteArray) ((ePairs t d4 d3 x2 d1 x0).take (q + 1)) = eLines (⟨#[]⟩ : ByteArray) ((ePairs t d4 d3 x2 d1 x0).take q) ++ eLine (kq, vq) ∧ (eLines (⟨#[]⟩ : ByteArray) ((ePairs t d4 d3 x2 d1 x0).take q)).size ≤ 1000000 ∧ kq.size ≤ 100 ∧ vq.size ≤ 1000 := by
          have hz := eLines_size (ePairs t d4 d3 x2 d1 x0) q (⟨#[]⟩ : ByteArray) HP.out
          have hzz : (eLines (⟨#[]⟩ : ByteArray) ((ePairs t d4 d3 x2 d1 x0).take q)).size ≤ 1000000 := by
            have e0 := eNone _ rfl
            omega
          have hp : ∀ p ∈ ePairs t d4 d3 x2 d1 x0, p.1.size ≤ 100 := ePairs_keys t d4 d3 x2 d1 x0
          have c := fun j => blk_cell hrw.out j
          rcases (show q = 0 ∨ q = 1 ∨ q = 2 ∨ q = 3 ∨ q = 4 ∨ q = 5 by omega) with rfl | rfl | rfl | rfl | rfl | rfl
          · exact ⟨ekAt, t, c 0, c 1, rfl, hzz, by decide, HP.out (ekAt, t) (by simp [ePairs])⟩
          · exact ⟨ekWall, d4, c 2, c 3, rfl, hzz, by decide, HP.out (ekWall, d4) (by simp [ePairs])⟩
          · exact ⟨ekMono, d3, c 4, c 5, rfl, hzz, by decide, HP.out (ekMono, d3) (by simp [ePairs])⟩
          · exact ⟨ekBoot, x2, c 6, c 7, rfl, hzz, by decide, HP.out (ekBoot, x2) (by simp [ePairs])⟩
          · exact ⟨ekSeq, d1, c 8, c 9, rfl, hzz, by decide, HP.out (ekSeq, d1) (by simp [ePairs])⟩
          · exact ⟨ekId, x0, c 10, c 11, rfl, hzz, by decide, HP.out (ekId, x0) (by simp [ePairs])⟩
        obtain ⟨kq, vq, hk1, hk2, hk3, hk4, hk5, hk6⟩ := hkey
        generalize eLines (⟨#[]⟩ : ByteArray) ((ePairs t d4 d3 x2 d1 x0).take q) = acc at hbld hk3 hk4
        have HK3 := Lib.hid hk3
        have hlt2 : (q : Int) < 6 := by omega
        have hgs : w.heap.size + 1 ≤ wr.heap.size := by
          have h1 := (Array.getElem?_eq_some_iff.1 hrw.out).1
          have h2 := HG.out
          omega
        have HIA := Lib.hid (bld_keep (w' := wr.alloc (.cells #[.string kq, .string vq] 57)) hbld.out (fun k hk => Below.heap_alloc _ _ k hk))
        have HBA : Hid (Below w.heap.size w (wr.alloc (.cells #[.string kq, .string vq] 57))) := Lib.hid (hbel.out.alloc hbel.out.size _)
        have HSA : Hid (w.heap.size + 1 ≤ (wr.alloc (.cells #[.string kq, .string vq] 57)).heap.size) := Lib.hid (by simp; omega)
        have HRA := Lib.hid (blk_alloc hrw.out (.cells #[.string kq, .string vq] 57))
        have HZA : Hid ((Lib.strCells acc).length + (((kq ++ (⟨#[61]⟩ : ByteArray)) ++ vq) ++ (⟨#[10]⟩ : ByteArray)).size ≤ 140737488355328) := Lib.hid (by
          rw [Lib.strCells_length, snoc10, ByteArray.size_append, snoc61]
          omega)
        have z1 : ¬ 9223372036854775807 < kq.size + 1 := by omega
        have z2 : ¬ 9223372036854775807 < kq.size + 1 + vq.size := by omega
        have z3 : ¬ 9223372036854775807 < kq.size + 1 + vq.size + 1 := by omega
        clear hk3 hk4 hk5 hk6 hgs
        go_wp2_with (first
          | (go_at_call 27; (with_reducible refine (bld_string (w.heap.size + 1) (w.heap.size + 1) (Lib.strCells acc) (((kq ++ (⟨#[61]⟩ : ByteArray)) ++ vq) ++ (⟨#[10]⟩ : ByteArray)) _ HIA.out HZA.out HSA.out).mono ?_); rintro e w6 ⟨rfl, hi6, hb6, hk7⟩; have HI6 := Lib.hid hi6; have HB6 : Hid (Below w.heap.size w w6) := Lib.hid (HBA.out.trans (hb6.mono (by omega))); have HR6 := Lib.hid (hk7 g _ HRA.out (by have := HG.out; omega) (fun c e => by injection e with _ e _; exact absurd e (by decide))); clear hi6 hb6 hk7))
        go_roundw
        case rel => exact ⟨q + 1, by omega, by go_num, Lib.hid (by rw [HK3.out, strCells_append]; exact HI6.out), HR6, HB6⟩
        case measure => simp [intOf]; omega
      · have hqe : q = 6 := by omega
        subst hqe
        have hpe : (ePairs t d4 d3 x2 d1 x0).take 6 = ePairs t d4 d3 x2 d1 x0 := rfl
        rw [hpe] at hbld
        have hgs : w.heap.size + 1 ≤ wr.heap.size := by
          have h1 := (Array.getElem?_eq_some_iff.1 hrw.out).1
          have h2 := HG.out
          omega
        clear hpe hrw HP
        generalize eLines (⟨#[]⟩ : ByteArray) (ePairs t d4 d3 x2 d1 x0) = front at hbld HIT
        have HIT0 : Hid (eItems k front (l1.drop 0) = some s) := HIT
        have hlen := Kd.C_max HR1.out
        rw [show ((6 : Nat) : Int) = (6 : Int) from rfl]
        go_wp2
        go_loopw [50, 9] (fun i _ wx => ∃ (m : Nat) (acc : ByteArray), m ≤ l1.length ∧ i = .int .i64 m ∧ Hid (eItems k acc (l1.drop m) = some s) ∧ Hid (Lib.IsBuilder 55 5 (w.heap.size + 1) (w.heap.size + 1) (Lib.strCells acc) wx) ∧ Hid (Below w.heap.size w wx) ∧ Hid (w.heap.size + 1 ≤ wx.heap.size)) (fun i _ _ => l1.length - (intOf i).toNat)
        case atStart => exact ⟨0, front, Nat.zero_le _, rfl, HIT0, hbld, hbel, Lib.hid hgs⟩
        case round =>
          obtain ⟨m, acc, hm, rfl, hit, hb2, hbe2, hsz2⟩ := hrel
          by_cases hm2 : m < l1.length
          · have hdr : l1.drop m = l1[m] :: l1.drop (m + 1) := List.drop_eq_getElem_cons hm2
            have hit2 := hit.out
            rw [hdr] at hit2
            obtain ⟨x, hx1, hx2, hx3⟩ := eItems_step hit2
            obtain ⟨ad, rfl, hcx⟩ := Kd.at_string (Kd.C_below HR1.out hbe2.out) (m : Int) (by omega) (by omega)
            have hrd : rdOf ByteArray.empty l1 (m : Int) = l1[m] := by
              unfold rdOf
              rw [Int.toNat_natCast, List.getD_eq_getElem?_getD, List.getElem?_eq_getElem hm2]
              rfl
            rw [hrd, Int.toNat_natCast] at hcx
            generalize l1[m] = item at hcx hx1
            have HX := Lib.hid hx1
            have HZ := Lib.hid hx2
            have HN := Lib.hid hx3
            have hlt2 : (m : Int) < (l1.length : Int) := by omega
            clear hit2 hdr hx1 hx2 hx3 hrd
            go_wp2_with (first
              | (go_at_call 8; (with_reducible refine (export_Item.calls _ x _ HX.out).mono ?_); rintro e w5 ⟨rfl, hb5⟩; have HI5 := Lib.hid (bld_keep (w' := w5) hb2.out (fun k hk => hb5.block k hk)); have HB5 : Hid (Below w.heap.size w w5) := Lib.hid (hbe2.out.trans (hb5.mono hbe2.out.size)); have HS5 : Hid (w.heap.size + 1 ≤ w5.heap.size) := Lib.hid (Nat.le_trans hsz2.out hb5.size); clear hb5)
              | (go_at_call 27; (with_reducible refine (bld_string (w.heap.size + 1) (w.heap.size + 1) (Lib.strCells acc) x _ HI5.out (by have := HZ.out; rw [ByteArray.size_append] at this; rw [Lib.strCells_length]; omega) HS5.out).mono ?_); rintro e w6 ⟨rfl, hi6, hb6, hk6⟩; have HI6 := Lib.hid hi6; have HB6 : Hid (Below w.heap.size w w6) := Lib.hid (HB5.out.trans (hb6.mono (by omega))); have HS6 : Hid (w.heap.size + 1 ≤ w6.heap.size) := Lib.hid (Nat.le_trans HS5.out hb6.size); clear hi6 hb6 hk6))
            go_roundw
            case rel => exact ⟨m + 1, acc ++ x, by omega, by go_num, HN, Lib.hid (by rw [strCells_append]; exact HI6.out), HB6, HS6⟩
            case measure => simp [intOf]; omega
          · have hm3 : (l1.length : Int) ≤ (m : Int) := by omega
            have hac : acc = s := by
              have h9 := hit.out
              rw [List.drop_of_length_le (by omega)] at h9
              exact Option.some.inj h9
            subst hac
            go_wp2_with (first
              | (go_at_call 27; (with_reducible refine (bld_string (w.heap.size + 1) (w.heap.size + 1) (Lib.strCells acc) (⟨#[10]⟩ : ByteArray) _ hb2.out (by have := HS.out; have h10 := snoc10 acc; rw [ByteArray.size_append] at h10; rw [Lib.strCells_length]; omega) hsz2.out).mono ?_); rintro e w6 ⟨rfl, hi6, hb6, hk6⟩; rw [← strCells_append] at hi6; have HI6 := Lib.hid hi6; have HB6 : Hid (Below w.heap.size w w6) := Lib.hid (hbe2.out.trans (hb6.mono (by omega))); have HS6 : Hid (w.heap.size + 1 ≤ w6.heap.size) := Lib.hid (Nat.le_trans hsz2.out hb6.size); clear hi6 hb6 hk6)
              | (go_at_call 28; (with_reducible refine (ebld_text (w.heap.size + 1) (w.heap.size + 1) _ _ HI6.out HS6.out).mono ?_); rintro e w7 ⟨rfl, hb7⟩; have HB7 : Hid (Below w.heap.size w w7) := Lib.hid (HB6.out.trans (hb7.mono (by omega))); clear hb7))
            go_ret
            exact ⟨ret_str HRES.out, HB7.out⟩

/-! ### logbooklaw32_of: function 11 -/
def logbooklaw32_of.f (a0_0 : Int) (a0_1 : Int) (a0_2 : Int) (a0_3 : Int) (a0_4 : Int) (a0_5 : Int) : Option (Int × Int × Int × Int × Int × Int) := some (a0_0, a0_1, a0_2, a0_3, a0_4, a0_5)
set_option maxHeartbeats 8000000 in
set_option maxRecDepth 100000 in
theorem logbooklaw32_of.calls (a0_0 : Int) (a0_1 : Int) (a0_2 : Int) (a0_3 : Int) (a0_4 : Int) (a0_5 : Int) (r1 : Int) (r2 : Int) (r3 : Int) (r4 : Int) (r5 : Int) (r6 : Int) (w : World) (h : logbooklaw32_of.f a0_0 a0_1 a0_2 a0_3 a0_4 a0_5 = some (r1, r2, r3, r4, r5, r6)) :
    Calls Tryd.prog 11 #[.agg #[.int .u64 a0_0, .int .u64 a0_1, .int .u64 a0_2, .int .u64 a0_3, .int .u64 a0_4, .int .u64 a0_5]] w fun e w' => e = .returned (.agg #[.int .u64 r1, .int .u64 r2, .int .u64 r3, .int .u64 r4, .int .u64 r5, .int .u64 r6]) ∧ Below w.heap.size w w' := by
  have hu23 := Tryd.underlying23
  have hu30 := Tryd.underlying30
  have HB := Aside0.mk (Below.refl w.heap.size w)
  have H : (some (a0_0, a0_1, a0_2, a0_3, a0_4, a0_5)) = some (r1, r2, r3, r4, r5, r6) := h
  clear h
  simp only [Option.some.injEq, Prod.mk.injEq] at H
  obtain ⟨rfl, rfl, rfl, rfl, rfl, rfl⟩ := H
  go_enter Tryd.func11, Tryd.ntmps11
  go_wp2_with (first | ((with_reducible refine gate_dst (N := 1) rfl ?_); refine box_event ?hg (N := 1) ?hd (cs := #[.int .u64 a0_0, .int .u64 a0_1, .int .u64 a0_2, .int .u64 a0_3, .int .u64 a0_4, .int .u64 a0_5]) (t := 23) ?hr ?_; (case hd => rfl); (case hg => rfl); (case hr => first | (go_simp; done) | (go_simp; rfl)); intro gb139 hg w2 hbox hb; have n0_ := Aside0.mk (below_step (by repeat (first | (with_reducible first | exact HB.out | apply below_alloc | apply pw_below_drewN | apply below_drew1) | exact HB.out)) hb); have n1_ := Aside0.mk (hbox); have n2_ := Aside0.mk ((by rw [hg]; exact (below_size (by repeat (first | (with_reducible first | exact HB.out | apply below_alloc | apply pw_below_drewN | apply below_drew1) | exact HB.out))) : w.heap.size ≤ gb139)); have n3_ := Aside0.mk ((by rw [hg]; exact (below_size (by repeat (first | (with_reducible first | exact HB.out | apply below_alloc | apply pw_below_drewN | apply below_drew1) | exact HB.out))) : w.heap.size ≤ gb139)); clear HB; have HB := n0_; have BK139 := n1_; have GW139 := n2_; have GE139 := n3_; clear n0_ n1_ n2_ n3_; clear hb hbox hg) | ((with_reducible refine gate_dst (N := 2) rfl ?_); refine box_event ?hg (N := 2) ?hd (cs := #[.int .u64 0, .int .u64 0, .int .u64 0, .int .u64 0, .int .u64 0, .int .u64 0]) (t := 30) ?hr ?_; (case hd => rfl); (case hg => rfl); (case hr => first | (go_simp; done) | (go_simp; rfl)); intro gb140 hg w3 hbox hb; have n0_ := Aside0.mk (blk_below (g := gb139) (o := .cells #[.int .u64 a0_0, .int .u64 a0_1, .int .u64 a0_2, .int .u64 a0_3, .int .u64 a0_4, .int .u64 a0_5] 23 (0, 0)) (by (with_reducible repeat (first | refine blk_drewN ?_ _ | refine blk_drew ?_ | refine blk_alloc ?_ _)); exact BK139.out) hb); have n1_ := Aside0.mk (below_step (by repeat (first | (with_reducible first | exact HB.out | apply below_alloc | apply pw_below_drewN | apply below_drew1 | refine below_set ?_ GE139.out) | exact HB.out)) hb); have n2_ := Aside0.mk (hbox); have n3_ := Aside0.mk ((by rw [hg]; exact (below_size (by repeat (first | (with_reducible first | exact HB.out | apply below_alloc | apply pw_below_drewN | apply below_drew1 | refine below_set ?_ GE139.out) | exact HB.out))) : w.heap.size ≤ gb140)); have n4_ := Aside0.mk ((by rw [hg]; exact (below_size (by repeat (first | (with_reducible first | exact HB.out | apply below_alloc | apply pw_below_drewN | apply below_drew1 | refine below_set ?_ GE139.out) | exact HB.out))) : w.heap.size ≤ gb140)); have n5_ := Aside0.mk ((by rw [hg]; exact Nat.ne_of_lt (blk_lt (g := gb139) (o := .cells #[.int .u64 a0_0, .int .u64 a0_1, .int .u64 a0_2, .int .u64 a0_3, .int .u64 a0_4, .int .u64 a0_5] 23 (0, 0)) (by (with_reducible repeat (first | refine blk_drewN ?_ _ | refine blk_drew ?_ | refine blk_alloc ?_ _)); exact BK139.out)) : gb139 ≠ gb140)); have n6_ := Aside0.mk ((by rw [hg]; exact Nat.ne_of_gt (blk_lt (g := gb139) (o := .cells #[.int .u64 a0_0, .int .u64 a0_1, .int .u64 a0_2, .int .u64 a0_3, .int .u64 a0_4, .int .u64 a0_5] 23 (0, 0)) (by (with_reducible repeat (first | refine blk_drewN ?_ _ | refine blk_drew ?_ | refine blk_alloc ?_ _)); exact BK139.out)) : gb140 ≠ gb139)); clear BK139; clear HB; have BK139 := n0_; have HB := n1_; have BK140 := n2_; have GW140 := n3_; have GE140 := n4_; have NB139_140 := n5_; have NB140_139 := n6_; clear n0_ n1_ n2_ n3_ n4_ n5_ n6_; clear hb hbox hg; have hnb4 := NB139_140.out; have hnc4 := NB140_139.out; have hcz5_0 : w3.cell? ⟨gb139, 0, none⟩ = some (.int .u64 a0_0) := (blk_cell BK139.out 0).trans rfl; have hcz5_1 : w3.cell? ⟨gb139, 1, none⟩ = some (.int .u64 a0_1) := (blk_cell BK139.out 1).trans rfl; have hcz5_2 : w3.cell? ⟨gb139, 2, none⟩ = some (.int .u64 a0_2) := (blk_cell BK139.out 2).trans rfl; have hcz5_3 : w3.cell? ⟨gb139, 3, none⟩ = some (.int .u64 a0_3) := (blk_cell BK139.out 3).trans rfl; have hcz5_4 : w3.cell? ⟨gb139, 4, none⟩ = some (.int .u64 a0_4) := (blk_cell BK139.out 4).trans rfl; have hcz5_5 : w3.cell? ⟨gb139, 5, none⟩ = some (.int .u64 a0_5) := (blk_cell BK139.out 5).trans rfl; have hfz5_0 := blk_frozen BK139.out 0; have hfz5_1 := blk_frozen BK139.out 1; have hfz5_2 := blk_frozen BK139.out 2; have hfz5_3 := blk_frozen BK139.out 3; have hfz5_4 := blk_frozen BK139.out 4; have hfz5_5 := blk_frozen BK139.out 5; have hcz6_0 : w3.cell? ⟨gb140, 0, none⟩ = some (.int .u64 0) := (blk_cell BK140.out 0).trans rfl; have hcz6_1 : w3.cell? ⟨gb140, 1, none⟩ = some (.int .u64 0) := (blk_cell BK140.out 1).trans rfl; have hcz6_2 : w3.cell? ⟨gb140, 2, none⟩ = some (.int .u64 0) := (blk_cell BK140.out 2).trans rfl; have hcz6_3 : w3.cell? ⟨gb140, 3, none⟩ = some (.int .u64 0) := (blk_cell BK140.out 3).trans rfl; have hcz6_4 : w3.cell? ⟨gb140, 4, none⟩ = some (.int .u64 0) := (blk_cell BK140.out 4).trans rfl; have hcz6_5 : w3.cell? ⟨gb140, 5, none⟩ = some (.int .u64 0) := (blk_cell BK140.out 5).trans rfl; have hfz6_0 := blk_frozen BK140.out 0; have hfz6_1 := blk_frozen BK140.out 1; have hfz6_2 := blk_frozen BK140.out 2; have hfz6_3 := blk_frozen BK140.out 3; have hfz6_4 := blk_frozen BK140.out 4; have hfz6_5 := blk_frozen BK140.out 5))
  refine bodyPost_ret (results_cell_row rfl _ _ gb140 30 #[.int .u64 a0_0, .int .u64 a0_1, .int .u64 a0_2, .int .u64 a0_3, .int .u64 a0_4, .int .u64 a0_5] (0, 0) _ rfl (by (with_reducible repeat (first | refine blk_drewN ?_ _ | refine blk_drew ?_ | refine blk_alloc ?_ _)); refine blk_put (cs := #[.int .u64 a0_0, .int .u64 a0_1, .int .u64 a0_2, .int .u64 a0_3, .int .u64 a0_4, .int .u64 0]) ?_ 5 _ rfl; (with_reducible repeat (first | refine blk_drewN ?_ _ | refine blk_drew ?_ | refine blk_alloc ?_ _)); refine blk_put (cs := #[.int .u64 a0_0, .int .u64 a0_1, .int .u64 a0_2, .int .u64 a0_3, .int .u64 0, .int .u64 0]) ?_ 4 _ rfl; (with_reducible repeat (first | refine blk_drewN ?_ _ | refine blk_drew ?_ | refine blk_alloc ?_ _)); refine blk_put (cs := #[.int .u64 a0_0, .int .u64 a0_1, .int .u64 a0_2, .int .u64 0, .int .u64 0, .int .u64 0]) ?_ 3 _ rfl; (with_reducible repeat (first | refine blk_drewN ?_ _ | refine blk_drew ?_ | refine blk_alloc ?_ _)); refine blk_put (cs := #[.int .u64 a0_0, .int .u64 a0_1, .int .u64 0, .int .u64 0, .int .u64 0, .int .u64 0]) ?_ 2 _ rfl; (with_reducible repeat (first | refine blk_drewN ?_ _ | refine blk_drew ?_ | refine blk_alloc ?_ _)); refine blk_put (cs := #[.int .u64 a0_0, .int .u64 0, .int .u64 0, .int .u64 0, .int .u64 0, .int .u64 0]) ?_ 1 _ rfl; (with_reducible repeat (first | refine blk_drewN ?_ _ | refine blk_drew ?_ | refine blk_alloc ?_ _)); refine blk_put (cs := #[.int .u64 0, .int .u64 0, .int .u64 0, .int .u64 0, .int .u64 0, .int .u64 0]) ?_ 0 _ rfl; (with_reducible repeat (first | refine blk_drewN ?_ _ | refine blk_drew ?_ | refine blk_alloc ?_ _)); exact BK140.out) Tryd.underlying30 rfl (by kernel_rfl)) rfl ?_
  exact ⟨by first | rfl | (simp [errW_none, errW_some] <;> rfl) | (simp [*, errW_none, errW_some] <;> rfl), by repeat (first | (with_reducible first | exact HB.out | apply below_alloc | apply pw_below_drewN | apply below_drew1 | refine below_set ?_ GE139.out | refine below_set ?_ GE140.out) | exact HB.out)⟩

/-! ### logbookref04_Texts: function 15 -/
def logbookref04_Texts.l0 : Nat → List ByteArray → List ByteArray → Int → Option (Bool)
  | 0, _, _, _ => none
  | k + 1, x0, x1, x5 => if x5 < (x0.length : Int) then (if 0 ≤ x5 then (if x5 < (x1.length : Int) then (if (rdOf ByteArray.empty x0 x5).toList = (rdOf ByteArray.empty x1 x5).toList then (logbookref04_Texts.l0 k x0 x1 (wrap64 (x5 + 1))) else (some false)) else (none)) else (none)) else (some true)
def logbookref04_Texts.f (k : Nat) (l0 : List ByteArray) (l1 : List ByteArray) : Option (Bool) := if (l0.length : Int) = (l1.length : Int) then (logbookref04_Texts.l0 k l0 l1 0) else (some false)
theorem logbookref04_Texts.mono_l : ∀ k, (∀ y0 y1 y2, LeO (logbookref04_Texts.l0 k y0 y1 y2) (logbookref04_Texts.l0 (k + 1) y0 y1 y2))
  | 0 => fun _ _ _ r h => by simp [logbookref04_Texts.l0] at h
  | k + 1 => by
    have ih0 := logbookref04_Texts.mono_l k
    · intro y0 y1 y2
      unfold logbookref04_Texts.l0
      repeat' first
      | (with_reducible exact ih0 _ _ _)
      | (with_reducible exact LeO.refl _)
      | (with_reducible exact LeO.none _)
      | (with_reducible refine LeO.ite ?_ ?_)
      | (with_reducible refine LeO.bind ?_ (fun _ => ?_))
      | exact ih0 _ _ _
      | exact LeO.none _
      | refine LeO.ite ?_ ?_
      | refine LeO.bind ?_ (fun _ => ?_)
theorem logbookref04_Texts.mono : ∀ a0 a1 k, LeO (logbookref04_Texts.f k a0 a1) (logbookref04_Texts.f (k + 1) a0 a1) := by
  intro a0 a1 k
  have ih0 := logbookref04_Texts.mono_l k
  unfold logbookref04_Texts.f
  repeat' first
      | (with_reducible exact ih0 _ _ _)
      | (with_reducible exact LeO.refl _)
      | (with_reducible exact LeO.none _)
      | (with_reducible refine LeO.ite ?_ ?_)
      | (with_reducible refine LeO.bind ?_ (fun _ => ?_))
      | exact ih0 _ _ _
      | exact LeO.none _
      | refine LeO.ite ?_ ?_
      | refine LeO.bind ?_ (fun _ => ?_)
set_option maxHeartbeats 8000000 in
set_option maxRecDepth 100000 in
theorem logbookref04_Texts.calls (k : Nat) (A0 : Option Addr) (c0 : Nat) (l0 : List ByteArray) (A1 : Option Addr) (c1 : Nat) (l1 : List ByteArray) (r : Bool) (w : World) (hr0 : Kd.C Kd.string w A0 l0.length l0) (hc0 : l0.length ≤ c0) (hr1 : Kd.C Kd.string w A1 l1.length l1) (hc1 : l1.length ≤ c1) (h : logbookref04_Texts.f k l0 l1 = some r) :
    Calls Tryd.prog 15 #[.slice A0 l0.length c0, .slice A1 l1.length c1] w fun e w' => e = .returned (.bool r) ∧ Drawn0 w w' := by
  have HR0 := Aside0.mk hr0
  have HC0 := Aside0.mk hc0
  clear hr0 hc0
  have HR1 := Aside0.mk hr1
  have HC1 := Aside0.mk hc1
  clear hr1 hc1
  have H : (if (l0.length : Int) = (l1.length : Int) then (logbookref04_Texts.l0 k l0 l1 0) else (some false)) = some r := h
  clear h
  by_cases c3 : (l0.length : Int) = (l1.length : Int)
  · rw [if_pos c3] at H
    have c3b0 : ((l0.length : Int) == (l1.length : Int)) = true := beq_iff_eq.mpr c3
    have c3b1 : ((l0.length : Int) != (l1.length : Int)) = false := bne_eq_false_iff_eq.mpr c3
    have c3b2 : (l0.length == l1.length) = true := by first | simpa using c3 | (simp at c3 ⊢; omega)
    clear c3
    have H' := Aside0.mk H
    clear H
    go_enter Tryd.func15, Tryd.ntmps15
    go_wp2
    repeat (go_quiet (fail); try go_wp2)
    go_loopg [5] k (fun kq v5 w' => ∃ (x5_1 : Int), v5 = .int .i64 x5_1 ∧ Aside0 (logbookref04_Texts.l0 kq l0 l1 x5_1 = some r) ∧ Aside0 (kq ≤ k) ∧ Drawn0 w w')
    case atStart => exact ⟨(0), (by first | rfl | (simp; done) | (simp [*]; done) | exact isEmpty_bne _), H', ⟨Nat.le_refl _⟩, by repeat (first | exact Drawn0.refl _ | apply Drawn0.step)⟩
    case round =>
      clear H'
      try clear c1
      try clear p2
      try clear c3
      try clear c3b0
      try clear c3b1
      try clear c3b2
      obtain ⟨x5_1, rfl, HA, HK1, ⟨m1, rfl⟩⟩ := hrel
      cases gk with
      | zero => exact absurd HA.out (by simp [logbookref04_Texts.l0])
      | succ k1 =>
        have H := HA.out
        clear HA
        simp only [logbookref04_Texts.l0] at H
        by_cases c4 : x5_1 < (l0.length : Int)
        · rw [if_pos c4] at H
          have c4b0 : decide (x5_1 < (l0.length : Int)) = true := decide_eq_true c4
          clear c4
          by_cases c5 : 0 ≤ x5_1
          · rw [if_pos c5] at H
            have c5b0 : decide (0 ≤ x5_1) = true := decide_eq_true c5
            clear c5
            by_cases c6 : x5_1 < (l1.length : Int)
            · rw [if_pos c6] at H
              have c6b0 : decide (x5_1 < (l1.length : Int)) = true := decide_eq_true c6
              clear c6
              by_cases c7 : (rdOf ByteArray.empty l0 x5_1).toList = (rdOf ByteArray.empty l1 x5_1).toList
              · rw [if_pos c7] at H
                have c7b0 : ((rdOf ByteArray.empty l0 x5_1).toList == (rdOf ByteArray.empty l1 x5_1).toList) = true := beq_iff_eq.mpr c7
                have c7b1 : ((rdOf ByteArray.empty l0 x5_1).toList != (rdOf ByteArray.empty l1 x5_1).toList) = false := bne_eq_false_iff_eq.mpr c7
                clear c7
                have H' := Aside0.mk H
                clear H
                have p141 : 0 ≤ (x5_1 : Int) := of_decide_eq_true (by first | (with_reducible assumption) | assumption)
                have q141 : x5_1 < (l0.length : Int) := of_decide_eq_true (by first | (with_reducible assumption) | assumption)
                obtain ⟨ad141, e141, hx141_0⟩ := Kd.at_string HR0.out x5_1 p141 q141
                cases e141
                replace p141 := eq_true p141
                replace q141 := eq_true q141
                have p142 : 0 ≤ (x5_1 : Int) := of_decide_eq_true (by first | (with_reducible assumption) | assumption)
                have q142 : x5_1 < (l1.length : Int) := of_decide_eq_true (by first | (with_reducible assumption) | assumption)
                obtain ⟨ad142, e142, hx142_0⟩ := Kd.at_string HR1.out x5_1 p142 q142
                cases e142
                replace p142 := eq_true p142
                replace q142 := eq_true q142
                go_wp2
                repeat (go_quiet (fail); try go_wp2)
                go_roundg k1
                case measure => have := HK1.out; omega
                case rel => exact ⟨(wrap64 (x5_1 + 1)), (by first | rfl | (simp; done) | (simp [*]; done) | exact isEmpty_bne _), H', ⟨by have := HK1.out; omega⟩, by repeat (first | exact Drawn0.refl _ | apply Drawn0.step)⟩
              · rw [if_neg c7] at H
                have c7b0 : ((rdOf ByteArray.empty l0 x5_1).toList == (rdOf ByteArray.empty l1 x5_1).toList) = false := beq_eq_false_iff_ne.mpr c7
                have c7b1 : ((rdOf ByteArray.empty l0 x5_1).toList != (rdOf ByteArray.empty l1 x5_1).toList) = true := bne_iff_ne.mpr c7
                obtain rfl := Option.some.inj H
                have p141 : 0 ≤ (x5_1 : Int) := of_decide_eq_true (by first | (with_reducible assumption) | assumption)
                have q141 : x5_1 < (l0.length : Int) := of_decide_eq_true (by first | (with_reducible assumption) | assumption)
                obtain ⟨ad141, e141, hx141_0⟩ := Kd.at_string HR0.out x5_1 p141 q141
                cases e141
                replace p141 := eq_true p141
                replace q141 := eq_true q141
                have p142 : 0 ≤ (x5_1 : Int) := of_decide_eq_true (by first | (with_reducible assumption) | assumption)
                have q142 : x5_1 < (l1.length : Int) := of_decide_eq_true (by first | (with_reducible assumption) | assumption)
                obtain ⟨ad142, e142, hx142_0⟩ := Kd.at_string HR1.out x5_1 p142 q142
                cases e142
                replace p142 := eq_true p142
                replace q142 := eq_true q142
                go_wp2
                repeat (go_quiet (fail); try go_wp2)
                go_ret
                exact ⟨by first | rfl | (simp; done) | (simp [*]; done) | exact isEmpty_bne _, by repeat (first | exact Drawn0.refl _ | apply Drawn0.step)⟩
            · rw [if_neg c6] at H
              exact absurd H (by simp)
          · rw [if_neg c5] at H
            exact absurd H (by simp)
        · rw [if_neg c4] at H
          have c4b0 : decide (x5_1 < (l0.length : Int)) = false := decide_eq_false c4
          clear c4
          obtain rfl := Option.some.inj H
          go_wp2
          repeat (go_quiet (fail); try go_wp2)
          go_ret
          exact ⟨by first | rfl | (simp; done) | (simp [*]; done) | exact isEmpty_bne _, by repeat (first | exact Drawn0.refl _ | apply Drawn0.step)⟩
  · rw [if_neg c3] at H
    have c3b0 : ((l0.length : Int) == (l1.length : Int)) = false := beq_eq_false_iff_ne.mpr c3
    have c3b1 : ((l0.length : Int) != (l1.length : Int)) = true := bne_iff_ne.mpr c3
    have c3b2 : (l0.length == l1.length) = false := by first | simpa using c3 | (simp at c3 ⊢; omega)
    obtain rfl := Option.some.inj H
    go_enter Tryd.func15, Tryd.ntmps15
    go_wp2
    repeat (go_quiet (fail); try go_wp2)
    go_ret
    exact ⟨by first | rfl | (simp; done) | (simp [*]; done) | exact isEmpty_bne _, by repeat (first | exact Drawn0.refl _ | apply Drawn0.step)⟩

end Go.Proofs.YtbbegchdlkmebaaDoor.PExportBack
