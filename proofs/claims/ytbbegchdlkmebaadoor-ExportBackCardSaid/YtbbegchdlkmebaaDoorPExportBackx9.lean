-- LAID BY gprint.py: a scratch copy of the print, with functions that this session proved by hand among the printed ones
import Derived.Test.YtbbegchdlkmebaaDoorPExportBackx0
import Derived.Test.YtbbegchdlkmebaaDoorPExportBackx2
import Derived.Test.YtbbegchdlkmebaaDoorPExportBackx6
import Derived.Test.YtbbegchdlkmebaaDoorPExportBackx7
import Derived.Test.YtbbegchdlkmebaaDoorPExportBackx8
namespace Go.Proofs.YtbbegchdlkmebaaDoor.PExportBack
open Go.RowKit Go.Proofs.YtbbegchdlkmebaaDoorW.PrintWords Go.Proofs.YtbbegchdlkmebaaDoorW.PrintLast Go.Proofs.YtbbegchdlkmebaaDoor.Conv Go.Proofs.YtbbegchdlkmebaaDoor.Bld Go.Proofs.YtbbegchdlkmebaaDoorW.PrintMore
attribute [local go_sem] max2_int min2_int max_two min_two max_three min_three max_four min_four gtr_less   -- for this text's walks alone
set_option linter.unusedVariables false
set_option linter.unusedSimpArgs false

-- GIVEN rounds=1 making=1 needs=logbook/export.line,strings.Cut,logbook/export.printable,logbook/le.Get
/-! ### export.field: the print of a scratch variant, turned back -/
theorem fbytes_reads (w : World) (e : TypeId) (s : ByteArray) (hs : s.size ≤ 140737488351232) : ReadsInt (Lib.bytesWorld w e s) .u8 (some ⟨w.heap.size, 0, none⟩) s.size (bytesOf s) := by
  refine ⟨bytesOf_length s, Nat.le_trans hs (by decide), fun _ => ⟨_, rfl, fun j hj => ?_⟩⟩
  rw [add_plain, Lib.bytesWorld_cell w e s j hj]
  have h := bytesOf_get s j hj
  rw [List.getD_eq_getElem?_getD (l := bytesOf s), h]
  rfl
theorem fbytes_C (w : World) (e : TypeId) (s : ByteArray) (hs : s.size ≤ 140737488351232) : Kd.C (Kd.int .u8) (Lib.bytesWorld w e s) (some ⟨w.heap.size, 0, none⟩) s.size (bytesOf s) :=
  Kd.C_of_reads (d := (0 : Int)) (h1 := fun _ => rfl) (fbytes_reads w e s hs)
def getS.f (k : Nat) (s : ByteArray) : Option (Int × Bool) := le_Get.f k (bytesOf s) 0 8
theorem getS.mono (s : ByteArray) (k : Nat) : LeO (getS.f k s) (getS.f (k + 1) s) := le_Get.mono _ _ _ k
theorem getS.calls (k : Nat) (s : ByteArray) (r1 : Int) (r2 : Bool) (w : World) (b : Nat) (hb : w.heap.size = b) (hs : s.size ≤ 8) (h : getS.f k s = some (r1, r2)) :
    Calls Tryd.prog 51 #[.slice (some ⟨b, 0, none⟩) s.size (grownCap w s.size 0 5), .int .i64 0, .int .i64 8] (Lib.bytesWorld w 5 s) fun e w' => e = .returned (.tuple #[.int .u64 r1, .bool r2]) ∧ Below w.heap.size w w' := by
  subst hb
  have hl := bytesOf_length s
  have hg := grownCap_ge w s.size 0 5
  have hr : Kd.C (Kd.int .u8) (Lib.bytesWorld w 5 s) (some ⟨w.heap.size, 0, none⟩) (bytesOf s).length (bytesOf s) := by
    rw [hl]
    exact fbytes_C w 5 s (by omega)
  have z := le_Get.calls k (some ⟨w.heap.size, 0, none⟩) (grownCap w s.size 0 5) (bytesOf s) 0 8 r1 r2 (Lib.bytesWorld w 5 s) hr (by rw [hl]; exact hg) h
  rw [hl] at z
  refine z.mono ?_
  rintro e w' ⟨rfl, nd, rfl⟩
  exact ⟨rfl, pw_below_drewN (below_bytes w 5 s) nd⟩
def export_field.j0 : Nat → ByteArray → ByteArray → Bool → Option (ByteArray × ByteArray × ByteArray × Bool)
  | 0, _, _, _ => none
  | k + 1, x6, x7, x26 => if x26 = true then (some ((⟨#[]⟩ : ByteArray), (⟨#[]⟩ : ByteArray), (⟨#[]⟩ : ByteArray), false)) else ((strings_Cut.f x6 (⟨#[61]⟩ : ByteArray)).bind fun bt161 => (if bt161.2.2 = true then ((export_printable.f bt161.2.1).bind fun t164 => (some (bt161.1, bt161.2.1, x7, t164))) else (if 0 ≤ (mn 8 (x7.size : Int)) then (if (mn 8 (x7.size : Int)) ≤ (x7.size : Int) then ((getS.f k (x7.extract 0 ((mn 8 (x7.size : Int)) : Int).toNat)).bind fun bt165 => (if bt165.2 = true then (if bt165.1 > 1024 then (some ((⟨#[]⟩ : ByteArray), (⟨#[]⟩ : ByteArray), (⟨#[]⟩ : ByteArray), false)) else (if (IntKind.u64.wrap (wrap64 ((x7.size : Int) - 8))) ≤ bt165.1 then (some ((⟨#[]⟩ : ByteArray), (⟨#[]⟩ : ByteArray), (⟨#[]⟩ : ByteArray), false)) else (if 0 ≤ (IntKind.u64.wrap (8 + bt165.1)) then (if (IntKind.u64.wrap (8 + bt165.1)) < (x7.size : Int) then (if (bt x7 (IntKind.u64.wrap (8 + bt165.1))) = 10 then (if 8 ≤ (IntKind.u64.wrap (8 + bt165.1)) then (if (IntKind.u64.wrap (8 + bt165.1)) ≤ (x7.size : Int) then (if 0 ≤ (IntKind.u64.wrap (9 + bt165.1)) then (if (IntKind.u64.wrap (9 + bt165.1)) ≤ (x7.size : Int) then ((export_printable.f (x7.extract 8 ((IntKind.u64.wrap (8 + bt165.1)) : Int).toNat)).bind fun t167 => (some (x6, x7.extract 8 ((IntKind.u64.wrap (8 + bt165.1)) : Int).toNat, x7.extract ((IntKind.u64.wrap (9 + bt165.1)) : Int).toNat x7.size, !t167))) else (none)) else (none)) else (none)) else (none)) else (some ((⟨#[]⟩ : ByteArray), (⟨#[]⟩ : ByteArray), (⟨#[]⟩ : ByteArray), false))) else (none)) else (none)))) else (some ((⟨#[]⟩ : ByteArray), (⟨#[]⟩ : ByteArray), (⟨#[]⟩ : ByteArray), false)))) else (none)) else (none))))
def export_field.f (k : Nat) (a0 : ByteArray) : Option (ByteArray × ByteArray × ByteArray × Bool) := (export_line.f a0).bind fun bt158 => (if bt158.2.2 = true then (export_field.j0 k bt158.1 bt158.2.1 (bt158.1.toList == ([] : List UInt8))) else (export_field.j0 k bt158.1 bt158.2.1 true))
theorem export_field.mono_l : ∀ k, (∀ y0 y1 y2, LeO (export_field.j0 k y0 y1 y2) (export_field.j0 (k + 1) y0 y1 y2))
  | 0 => fun _ _ _ r h => by simp [export_field.j0] at h
  | k + 1 => by
    have ih0 := export_field.mono_l k
    · intro y0 y1 y2
      unfold export_field.j0
      repeat' first
      | (with_reducible exact getS.mono _ _)
      | (with_reducible exact ih0 _ _ _)
      | (with_reducible exact LeO.refl _)
      | (with_reducible exact LeO.none _)
      | (with_reducible refine LeO.ite ?_ ?_)
      | (with_reducible refine LeO.bind ?_ (fun _ => ?_))
      | exact ih0 _ _ _
      | exact LeO.none _
      | refine LeO.ite ?_ ?_
      | refine LeO.bind ?_ (fun _ => ?_)
theorem export_field.mono : ∀ a0 k, LeO (export_field.f k a0) (export_field.f (k + 1) a0) := by
  intro a0 k
  have ih0 := export_field.mono_l k
  unfold export_field.f
  repeat' first
      | (with_reducible exact ih0 _ _ _)
      | (with_reducible exact LeO.refl _)
      | (with_reducible exact LeO.none _)
      | (with_reducible refine LeO.ite ?_ ?_)
      | (with_reducible refine LeO.bind ?_ (fun _ => ?_))
      | exact ih0 _ _ _
      | exact LeO.none _
      | refine LeO.ite ?_ ?_
      | refine LeO.bind ?_ (fun _ => ?_)
def export_field.T11 : Bool × List (List Nat × List Nat) := (true, [([], []), ([], []), ([], []), ([], []), ([3], [3]), ([2, 4], [2, 4]), ([], []), ([6], [6]), ([7], [7]), ([0, 7, 0], [0]), ([1, 9, 0, 1, 9], [1]), ([5, 10, 0, 1, 2, 3, 4, 5, 9, 10], [5]), ([8, 11, 0, 1, 2, 3, 4, 5, 6, 7, 8, 9, 10, 11], [8])])
def export_field.B11 : List Nat := [0, 0, 0, 0, 8, 28, 0, 64, 192, 193, 707, 1791, 4095]
theorem export_field.tab11 : rtab .any (opsOf Tryd.f34 11) = export_field.T11 := by kernel_rfl
theorem export_field.bits11 : waitsOk export_field.T11.2 export_field.B11 = true := by kernel_rfl
set_option maxHeartbeats 8000000 in
set_option maxRecDepth 100000 in
theorem export_field.calls (k : Nat) (a0 : ByteArray) (r1 : ByteArray) (r2 : ByteArray) (r3 : ByteArray) (r4 : Bool) (w : World) (h : export_field.f k a0 = some (r1, r2, r3, r4)) :
    Calls Tryd.prog 34 #[.string a0] w fun e w' => e = .returned (.tuple #[.string r1, .string r2, .string r3, .bool r4]) ∧ Below w.heap.size w w' := by
  have HB := Aside0.mk (Below.refl w.heap.size w)
  have H : ((export_line.f a0).bind fun bt158 => (if bt158.2.2 = true then (export_field.j0 k bt158.1 bt158.2.1 (bt158.1.toList == ([] : List UInt8))) else (export_field.j0 k bt158.1 bt158.2.1 true))) = some (r1, r2, r3, r4) := h
  clear h
  replace H := Option.bind_eq_some_iff.mp H
  obtain ⟨⟨t158, t159, t160⟩, A20, H⟩ := H
  replace H : (if t160 = true then (export_field.j0 k t158 t159 (t158.toList == ([] : List UInt8))) else (export_field.j0 k t158 t159 true)) = some (r1, r2, r3, r4) := H
  have A2 := Aside0.mk A20
  clear A20
  have HC3 := Aside0.mk H
  clear H
  go_enter Tryd.func34, Tryd.ntmps34
  go_upto_region 2 with (first | ((with_reducible refine gate_callee (f := 32) rfl ?_); refine goesL_ (some 17) rfl rfl Tryd.func32 (by kernel_rfl) rfl #[.string a0] rfl (by (try simp only [List.map_toArray, List.map_cons, List.map_nil]); first | done | rfl | (simp only [List.length_drop, List.length_take]; rfl)) ?_; (with_reducible refine (export_line.calls a0 t158 t159 t160 _ A2.out).mono ?_); rintro e w' ⟨rfl, ⟨nd, rfl⟩⟩; refine ⟨_, rfl, ?_⟩))
  (try simp only [Act.put, List.setIfInBounds_toArray, List.set_cons_zero, List.set_cons_succ])
  go_cut [26] (fun v26 wc => ∃ (kq : Nat) (x26_2 : Bool), v26 = .bool x26_2 ∧ Aside0 (export_field.j0 kq t158 t159 x26_2 = some (r1, r2, r3, r4)) ∧ Aside0 (kq ≤ k) ∧ Aside0 (Below w.heap.size w wc))
  case first =>
    have H := HC3.out
    clear HC3
    by_cases c4 : t160 = true
    · subst c4
      have H1 : (export_field.j0 k t158 t159 (t158.toList == ([] : List UInt8))) = some (r1, r2, r3, r4) := by rw [if_pos rfl] at H; exact H
      clear H
      have H := H1
      clear H1
      have H' := Aside0.mk H
      clear H
      go_wp2
      go_meet
      case rel => exact ⟨_, ((t158.toList == ([] : List UInt8))), (by first | rfl | (simp; done) | (simp [*]; done) | exact isEmpty_bne _), H', ⟨by first | omega | exact Nat.le_refl _⟩, ⟨by repeat (first | (with_reducible first | exact HB.out | apply below_alloc | apply pw_below_drewN | apply below_drew1) | exact HB.out)⟩⟩
    · replace c4 := Bool.eq_false_iff.mpr c4
      subst c4
      have H1 : (export_field.j0 k t158 t159 true) = some (r1, r2, r3, r4) := by rw [if_neg (show ¬ (false = true) by decide)] at H; exact H
      clear H
      have H := H1
      clear H1
      have H' := Aside0.mk H
      clear H
      go_wp2
      go_meet
      case rel => exact ⟨_, (true), (by first | rfl | (simp; done) | (simp [*]; done) | exact isEmpty_bne _), H', ⟨by first | omega | exact Nat.le_refl _⟩, ⟨by repeat (first | (with_reducible first | exact HB.out | apply below_alloc | apply pw_below_drewN | apply below_drew1) | exact HB.out)⟩⟩
  case rest =>
    clear HC3
    try clear p2
    try clear c3
    try clear c4
    obtain ⟨kq, x26_2, rfl, HA, HJ2, HB⟩ := hcut
    cases kq with
    | zero => exact absurd HA.out (by simp [export_field.j0])
    | succ kj2 =>
      have H := HA.out
      clear HA
      simp only [export_field.j0] at H
      by_cases c5 : x26_2 = true
      · subst c5
        have H1 : (some ((⟨#[]⟩ : ByteArray), (⟨#[]⟩ : ByteArray), (⟨#[]⟩ : ByteArray), false)) = some (r1, r2, r3, r4) := by rw [if_pos rfl] at H; exact H
        clear H
        have H := H1
        clear H1
        simp only [Option.some.injEq, Prod.mk.injEq] at H
        obtain ⟨rfl, rfl, rfl, rfl⟩ := H
        go_wp2
        refine bodyPost_ret (results_list (rs := [.tmp 2, .tmp 3, .tmp 4, .tmp 5]) rfl (by simp) (.tmp (.tmp (.tmp (.tmp .nil))))) rfl ?_
        exact ⟨by first | rfl | (simp [errW_none, errW_some] <;> rfl) | (simp [*, errW_none, errW_some] <;> rfl), by repeat (first | (with_reducible first | exact HB.out | apply below_alloc | apply pw_below_drewN | apply below_drew1) | exact HB.out)⟩
      · replace c5 := Bool.eq_false_iff.mpr c5
        subst c5
        have H1 : ((strings_Cut.f t158 (⟨#[61]⟩ : ByteArray)).bind fun bt161 => (if bt161.2.2 = true then ((export_printable.f bt161.2.1).bind fun t164 => (some (bt161.1, bt161.2.1, t159, t164))) else (if 0 ≤ (mn 8 (t159.size : Int)) then (if (mn 8 (t159.size : Int)) ≤ (t159.size : Int) then ((getS.f kj2 (t159.extract 0 ((mn 8 (t159.size : Int)) : Int).toNat)).bind fun bt165 => (if bt165.2 = true then (if bt165.1 > 1024 then (some ((⟨#[]⟩ : ByteArray), (⟨#[]⟩ : ByteArray), (⟨#[]⟩ : ByteArray), false)) else (if (IntKind.u64.wrap (wrap64 ((t159.size : Int) - 8))) ≤ bt165.1 then (some ((⟨#[]⟩ : ByteArray), (⟨#[]⟩ : ByteArray), (⟨#[]⟩ : ByteArray), false)) else (if 0 ≤ (IntKind.u64.wrap (8 + bt165.1)) then (if (IntKind.u64.wrap (8 + bt165.1)) < (t159.size : Int) then (if (bt t159 (IntKind.u64.wrap (8 + bt165.1))) = 10 then (if 8 ≤ (IntKind.u64.wrap (8 + bt165.1)) then (if (IntKind.u64.wrap (8 + bt165.1)) ≤ (t159.size : Int) then (if 0 ≤ (IntKind.u64.wrap (9 + bt165.1)) then (if (IntKind.u64.wrap (9 + bt165.1)) ≤ (t159.size : Int) then ((export_printable.f (t159.extract 8 ((IntKind.u64.wrap (8 + bt165.1)) : Int).toNat)).bind fun t167 => (some (t158, t159.extract 8 ((IntKind.u64.wrap (8 + bt165.1)) : Int).toNat, t159.extract ((IntKind.u64.wrap (9 + bt165.1)) : Int).toNat t159.size, !t167))) else (none)) else (none)) else (none)) else (none)) else (some ((⟨#[]⟩ : ByteArray), (⟨#[]⟩ : ByteArray), (⟨#[]⟩ : ByteArray), false))) else (none)) else (none)))) else (some ((⟨#[]⟩ : ByteArray), (⟨#[]⟩ : ByteArray), (⟨#[]⟩ : ByteArray), false)))) else (none)) else (none)))) = some (r1, r2, r3, r4) := by rw [if_neg (show ¬ (false = true) by decide)] at H; exact H
        clear H
        have H := H1
        clear H1
        replace H := Option.bind_eq_some_iff.mp H
        obtain ⟨⟨t161, t162, t163⟩, A60, H⟩ := H
        replace H : (if t163 = true then ((export_printable.f t162).bind fun t164 => (some (t161, t162, t159, t164))) else (if 0 ≤ (mn 8 (t159.size : Int)) then (if (mn 8 (t159.size : Int)) ≤ (t159.size : Int) then ((getS.f kj2 (t159.extract 0 ((mn 8 (t159.size : Int)) : Int).toNat)).bind fun bt165 => (if bt165.2 = true then (if bt165.1 > 1024 then (some ((⟨#[]⟩ : ByteArray), (⟨#[]⟩ : ByteArray), (⟨#[]⟩ : ByteArray), false)) else (if (IntKind.u64.wrap (wrap64 ((t159.size : Int) - 8))) ≤ bt165.1 then (some ((⟨#[]⟩ : ByteArray), (⟨#[]⟩ : ByteArray), (⟨#[]⟩ : ByteArray), false)) else (if 0 ≤ (IntKind.u64.wrap (8 + bt165.1)) then (if (IntKind.u64.wrap (8 + bt165.1)) < (t159.size : Int) then (if (bt t159 (IntKind.u64.wrap (8 + bt165.1))) = 10 then (if 8 ≤ (IntKind.u64.wrap (8 + bt165.1)) then (if (IntKind.u64.wrap (8 + bt165.1)) ≤ (t159.size : Int) then (if 0 ≤ (IntKind.u64.wrap (9 + bt165.1)) then (if (IntKind.u64.wrap (9 + bt165.1)) ≤ (t159.size : Int) then ((export_printable.f (t159.extract 8 ((IntKind.u64.wrap (8 + bt165.1)) : Int).toNat)).bind fun t167 => (some (t158, t159.extract 8 ((IntKind.u64.wrap (8 + bt165.1)) : Int).toNat, t159.extract ((IntKind.u64.wrap (9 + bt165.1)) : Int).toNat t159.size, !t167))) else (none)) else (none)) else (none)) else (none)) else (some ((⟨#[]⟩ : ByteArray), (⟨#[]⟩ : ByteArray), (⟨#[]⟩ : ByteArray), false))) else (none)) else (none)))) else (some ((⟨#[]⟩ : ByteArray), (⟨#[]⟩ : ByteArray), (⟨#[]⟩ : ByteArray), false)))) else (none)) else (none))) = some (r1, r2, r3, r4) := H
        have A6 := Aside0.mk A60
        clear A60
        by_cases c7 : t163 = true
        · subst c7
          have H1 : ((export_printable.f t162).bind fun t164 => (some (t161, t162, t159, t164))) = some (r1, r2, r3, r4) := by rw [if_pos rfl] at H; exact H
          clear H
          have H := H1
          clear H1
          replace H := Option.bind_eq_some_iff.mp H
          obtain ⟨t164, A80, H⟩ := H
          replace H : (some (t161, t162, t159, t164)) = some (r1, r2, r3, r4) := H
          have A8 := Aside0.mk A80
          clear A80
          simp only [Option.some.injEq, Prod.mk.injEq] at H
          obtain ⟨rfl, rfl, rfl, rfl⟩ := H
          go_wp2_with (first | ((with_reducible refine gate_callee (f := 42) rfl ?_); refine goesL_ (some 29) rfl rfl Tryd.func42 (by kernel_rfl) rfl #[.string t158, .string (⟨#[61]⟩ : ByteArray)] rfl (by (try simp only [List.map_toArray, List.map_cons, List.map_nil]); first | done | rfl | (simp only [List.length_drop, List.length_take]; rfl)) ?_; (with_reducible refine (strings_Cut.calls t158 (⟨#[61]⟩ : ByteArray) t161 t162 true _ A6.out).mono ?_); rintro e w' ⟨rfl, ⟨nd, rfl⟩⟩; refine ⟨_, rfl, ?_⟩) | ((with_reducible refine gate_callee (f := 20) rfl ?_); refine goesL_ (some 38) rfl rfl Tryd.func20 (by kernel_rfl) rfl #[.string t162] rfl (by (try simp only [List.map_toArray, List.map_cons, List.map_nil]); first | done | rfl | (simp only [List.length_drop, List.length_take]; rfl)) ?_; (with_reducible refine (export_printable.calls t162 t164 _ A8.out).mono ?_); rintro e w9 ⟨rfl, hb⟩; refine ⟨_, rfl, ?_⟩; have n0_ := Aside0.mk (below_step (by repeat (first | (with_reducible first | exact HB.out | apply below_alloc | apply pw_below_drewN | apply below_drew1) | exact HB.out)) hb); clear HB; have HB := n0_; clear n0_; (try clear hb); (try clear hb2); (try clear hk); (try clear hi)))
          refine bodyPost_ret (results_list (rs := [.tmp 2, .tmp 3, .tmp 4, .tmp 5]) rfl (by simp) (.tmp (.tmp (.tmp (.tmp .nil))))) rfl ?_
          exact ⟨by first | rfl | (simp [errW_none, errW_some] <;> rfl) | (simp [*, errW_none, errW_some] <;> rfl), by repeat (first | (with_reducible first | exact HB.out | apply below_alloc | apply pw_below_drewN | apply below_drew1) | exact HB.out)⟩
        · replace c7 := Bool.eq_false_iff.mpr c7
          subst c7
          have H1 : (if 0 ≤ (mn 8 (t159.size : Int)) then (if (mn 8 (t159.size : Int)) ≤ (t159.size : Int) then ((getS.f kj2 (t159.extract 0 ((mn 8 (t159.size : Int)) : Int).toNat)).bind fun bt165 => (if bt165.2 = true then (if bt165.1 > 1024 then (some ((⟨#[]⟩ : ByteArray), (⟨#[]⟩ : ByteArray), (⟨#[]⟩ : ByteArray), false)) else (if (IntKind.u64.wrap (wrap64 ((t159.size : Int) - 8))) ≤ bt165.1 then (some ((⟨#[]⟩ : ByteArray), (⟨#[]⟩ : ByteArray), (⟨#[]⟩ : ByteArray), false)) else (if 0 ≤ (IntKind.u64.wrap (8 + bt165.1)) then (if (IntKind.u64.wrap (8 + bt165.1)) < (t159.size : Int) then (if (bt t159 (IntKind.u64.wrap (8 + bt165.1))) = 10 then (if 8 ≤ (IntKind.u64.wrap (8 + bt165.1)) then (if (IntKind.u64.wrap (8 + bt165.1)) ≤ (t159.size : Int) then (if 0 ≤ (IntKind.u64.wrap (9 + bt165.1)) then (if (IntKind.u64.wrap (9 + bt165.1)) ≤ (t159.size : Int) then ((export_printable.f (t159.extract 8 ((IntKind.u64.wrap (8 + bt165.1)) : Int).toNat)).bind fun t167 => (some (t158, t159.extract 8 ((IntKind.u64.wrap (8 + bt165.1)) : Int).toNat, t159.extract ((IntKind.u64.wrap (9 + bt165.1)) : Int).toNat t159.size, !t167))) else (none)) else (none)) else (none)) else (none)) else (some ((⟨#[]⟩ : ByteArray), (⟨#[]⟩ : ByteArray), (⟨#[]⟩ : ByteArray), false))) else (none)) else (none)))) else (some ((⟨#[]⟩ : ByteArray), (⟨#[]⟩ : ByteArray), (⟨#[]⟩ : ByteArray), false)))) else (none)) else (none)) = some (r1, r2, r3, r4) := by rw [if_neg (show ¬ (false = true) by decide)] at H; exact H
          clear H
          have H := H1
          clear H1
          obtain ⟨ji10, hji10⟩ : ∃ j_ : Int, (mn 8 (t159.size : Int)) = j_ := ⟨_, rfl⟩
          replace H : (if 0 ≤ (ji10) then (if (ji10) ≤ (t159.size : Int) then ((getS.f kj2 (t159.extract 0 ((ji10) : Int).toNat)).bind fun bt165 => (if bt165.2 = true then (if bt165.1 > 1024 then (some ((⟨#[]⟩ : ByteArray), (⟨#[]⟩ : ByteArray), (⟨#[]⟩ : ByteArray), false)) else (if (IntKind.u64.wrap (wrap64 ((t159.size : Int) - 8))) ≤ bt165.1 then (some ((⟨#[]⟩ : ByteArray), (⟨#[]⟩ : ByteArray), (⟨#[]⟩ : ByteArray), false)) else (if 0 ≤ (IntKind.u64.wrap (8 + bt165.1)) then (if (IntKind.u64.wrap (8 + bt165.1)) < (t159.size : Int) then (if (bt t159 (IntKind.u64.wrap (8 + bt165.1))) = 10 then (if 8 ≤ (IntKind.u64.wrap (8 + bt165.1)) then (if (IntKind.u64.wrap (8 + bt165.1)) ≤ (t159.size : Int) then (if 0 ≤ (IntKind.u64.wrap (9 + bt165.1)) then (if (IntKind.u64.wrap (9 + bt165.1)) ≤ (t159.size : Int) then ((export_printable.f (t159.extract 8 ((IntKind.u64.wrap (8 + bt165.1)) : Int).toNat)).bind fun t167 => (some (t158, t159.extract 8 ((IntKind.u64.wrap (8 + bt165.1)) : Int).toNat, t159.extract ((IntKind.u64.wrap (9 + bt165.1)) : Int).toNat t159.size, !t167))) else (none)) else (none)) else (none)) else (none)) else (some ((⟨#[]⟩ : ByteArray), (⟨#[]⟩ : ByteArray), (⟨#[]⟩ : ByteArray), false))) else (none)) else (none)))) else (some ((⟨#[]⟩ : ByteArray), (⟨#[]⟩ : ByteArray), (⟨#[]⟩ : ByteArray), false)))) else (none)) else (none)) = some (r1, r2, r3, r4) := by first | (rw [hji10] at H; exact H) | (simp only [hji10] at H ⊢; exact H)
          (try rw [hji10] at A6)
          have hji10_ : (if (t159.size : Int) < 8 then (t159.size : Int) else 8) = ji10 := hji10
          by_cases c11 : 0 ≤ (ji10)
          · rw [if_pos c11] at H
            have c11b0 := eq_true c11
            have c11b1 : decide (0 ≤ (ji10)) = true := decide_eq_true c11
            clear c11
            by_cases c12 : (ji10) ≤ (t159.size : Int)
            · rw [if_pos c12] at H
              have c12b0 := eq_true c12
              have c12b1 : decide ((ji10) ≤ (t159.size : Int)) = true := decide_eq_true c12
              clear c12
              replace H := Option.bind_eq_some_iff.mp H
              obtain ⟨⟨t165, t166⟩, A130, H⟩ := H
              replace H : (if t166 = true then (if t165 > 1024 then (some ((⟨#[]⟩ : ByteArray), (⟨#[]⟩ : ByteArray), (⟨#[]⟩ : ByteArray), false)) else (if (IntKind.u64.wrap (wrap64 ((t159.size : Int) - 8))) ≤ t165 then (some ((⟨#[]⟩ : ByteArray), (⟨#[]⟩ : ByteArray), (⟨#[]⟩ : ByteArray), false)) else (if 0 ≤ (IntKind.u64.wrap (8 + t165)) then (if (IntKind.u64.wrap (8 + t165)) < (t159.size : Int) then (if (bt t159 (IntKind.u64.wrap (8 + t165))) = 10 then (if 8 ≤ (IntKind.u64.wrap (8 + t165)) then (if (IntKind.u64.wrap (8 + t165)) ≤ (t159.size : Int) then (if 0 ≤ (IntKind.u64.wrap (9 + t165)) then (if (IntKind.u64.wrap (9 + t165)) ≤ (t159.size : Int) then ((export_printable.f (t159.extract 8 ((IntKind.u64.wrap (8 + t165)) : Int).toNat)).bind fun t167 => (some (t158, t159.extract 8 ((IntKind.u64.wrap (8 + t165)) : Int).toNat, t159.extract ((IntKind.u64.wrap (9 + t165)) : Int).toNat t159.size, !t167))) else (none)) else (none)) else (none)) else (none)) else (some ((⟨#[]⟩ : ByteArray), (⟨#[]⟩ : ByteArray), (⟨#[]⟩ : ByteArray), false))) else (none)) else (none)))) else (some ((⟨#[]⟩ : ByteArray), (⟨#[]⟩ : ByteArray), (⟨#[]⟩ : ByteArray), false))) = some (r1, r2, r3, r4) := H
              obtain ⟨X_, hX_⟩ : ∃ X_, t159.extract 0 ((ji10) : Int).toNat = X_ := ⟨_, rfl⟩
              rw [hX_] at A130
              have HX_ : Aside0 (X_.size ≤ 8) := Aside0.mk (by rw [← hX_, ByteArray.size_extract]; have h_ := hji10_; split at h_ <;> omega)
              have kc := fun (w : World) => Lib.run_convert_string_bytes (P := Tryd.prog) w 9 51 5 X_ Tryd.underlying9 Tryd.underlying51 Tryd.underlying5
              have A13 := Aside0.mk A130
              clear A130
              by_cases c14 : t166 = true
              · subst c14
                have H1 : (if t165 > 1024 then (some ((⟨#[]⟩ : ByteArray), (⟨#[]⟩ : ByteArray), (⟨#[]⟩ : ByteArray), false)) else (if (IntKind.u64.wrap (wrap64 ((t159.size : Int) - 8))) ≤ t165 then (some ((⟨#[]⟩ : ByteArray), (⟨#[]⟩ : ByteArray), (⟨#[]⟩ : ByteArray), false)) else (if 0 ≤ (IntKind.u64.wrap (8 + t165)) then (if (IntKind.u64.wrap (8 + t165)) < (t159.size : Int) then (if (bt t159 (IntKind.u64.wrap (8 + t165))) = 10 then (if 8 ≤ (IntKind.u64.wrap (8 + t165)) then (if (IntKind.u64.wrap (8 + t165)) ≤ (t159.size : Int) then (if 0 ≤ (IntKind.u64.wrap (9 + t165)) then (if (IntKind.u64.wrap (9 + t165)) ≤ (t159.size : Int) then ((export_printable.f (t159.extract 8 ((IntKind.u64.wrap (8 + t165)) : Int).toNat)).bind fun t167 => (some (t158, t159.extract 8 ((IntKind.u64.wrap (8 + t165)) : Int).toNat, t159.extract ((IntKind.u64.wrap (9 + t165)) : Int).toNat t159.size, !t167))) else (none)) else (none)) else (none)) else (none)) else (some ((⟨#[]⟩ : ByteArray), (⟨#[]⟩ : ByteArray), (⟨#[]⟩ : ByteArray), false))) else (none)) else (none)))) = some (r1, r2, r3, r4) := by rw [if_pos rfl] at H; exact H
                clear H
                have H := H1
                clear H1
                by_cases c15 : t165 > 1024
                · rw [if_pos c15] at H
                  have c15b0 : decide (1024 < t165) = true := decide_eq_true c15
                  clear c15
                  simp only [Option.some.injEq, Prod.mk.injEq] at H
                  obtain ⟨rfl, rfl, rfl, rfl⟩ := H
                  go_wp2_with (first | ((with_reducible refine gate_callee (f := 42) rfl ?_); refine goesL_ (some 29) rfl rfl Tryd.func42 (by kernel_rfl) rfl #[.string t158, .string (⟨#[61]⟩ : ByteArray)] rfl (by (try simp only [List.map_toArray, List.map_cons, List.map_nil]); first | done | rfl | (simp only [List.length_drop, List.length_take]; rfl)) ?_; (with_reducible refine (strings_Cut.calls t158 (⟨#[61]⟩ : ByteArray) t161 t162 false _ A6.out).mono ?_); rintro e w' ⟨rfl, ⟨nd, rfl⟩⟩; refine ⟨_, rfl, ?_⟩) | (go_at_call 51; have hb_ : (wc.drewN nd).heap.size = wc.heap.size := rfl; (with_reducible refine (getS.calls kj2 X_ t165 true (wc.drewN nd) wc.heap.size hb_ HX_.out A13.out).mono ?_); rintro e w16 ⟨rfl, hb⟩; have n0_ := Aside0.mk (below_step (by repeat (first | (with_reducible first | exact HB.out | apply below_alloc | apply pw_below_drewN | apply below_drew1) | exact HB.out)) hb); clear HB; have HB := n0_; clear n0_; (try clear hb); (try clear hb2); (try clear hk); (try clear hi)))
                  refine bodyPost_ret (results_list (rs := [.tmp 2, .tmp 3, .tmp 4, .tmp 5]) rfl (by simp) (.tmp (.tmp (.tmp (.tmp .nil))))) rfl ?_
                  exact ⟨by first | rfl | (simp [errW_none, errW_some] <;> rfl) | (simp only [← hji10]; first | rfl | (simp [errW_none, errW_some] <;> rfl)) | (simp [*, errW_none, errW_some] <;> rfl), by repeat (first | (with_reducible first | exact HB.out | apply below_alloc | apply pw_below_drewN | apply below_drew1) | exact HB.out)⟩
                · rw [if_neg c15] at H
                  have c15b0 : decide (1024 < t165) = false := decide_eq_false c15
                  clear c15
                  by_cases c17 : (IntKind.u64.wrap (wrap64 ((t159.size : Int) - 8))) ≤ t165
                  · rw [if_pos c17] at H
                    have c17b0 : decide ((IntKind.u64.wrap (wrap64 ((t159.size : Int) - 8))) ≤ t165) = true := decide_eq_true c17
                    clear c17
                    simp only [Option.some.injEq, Prod.mk.injEq] at H
                    obtain ⟨rfl, rfl, rfl, rfl⟩ := H
                    go_wp2_with (first | ((with_reducible refine gate_callee (f := 42) rfl ?_); refine goesL_ (some 29) rfl rfl Tryd.func42 (by kernel_rfl) rfl #[.string t158, .string (⟨#[61]⟩ : ByteArray)] rfl (by (try simp only [List.map_toArray, List.map_cons, List.map_nil]); first | done | rfl | (simp only [List.length_drop, List.length_take]; rfl)) ?_; (with_reducible refine (strings_Cut.calls t158 (⟨#[61]⟩ : ByteArray) t161 t162 false _ A6.out).mono ?_); rintro e w' ⟨rfl, ⟨nd, rfl⟩⟩; refine ⟨_, rfl, ?_⟩) | (go_at_call 51; have hb_ : (wc.drewN nd).heap.size = wc.heap.size := rfl; (with_reducible refine (getS.calls kj2 X_ t165 true (wc.drewN nd) wc.heap.size hb_ HX_.out A13.out).mono ?_); rintro e w18 ⟨rfl, hb⟩; have n0_ := Aside0.mk (below_step (by repeat (first | (with_reducible first | exact HB.out | apply below_alloc | apply pw_below_drewN | apply below_drew1) | exact HB.out)) hb); clear HB; have HB := n0_; clear n0_; (try clear hb); (try clear hb2); (try clear hk); (try clear hi)))
                    refine bodyPost_ret (results_list (rs := [.tmp 2, .tmp 3, .tmp 4, .tmp 5]) rfl (by simp) (.tmp (.tmp (.tmp (.tmp .nil))))) rfl ?_
                    exact ⟨by first | rfl | (simp [errW_none, errW_some] <;> rfl) | (simp only [← hji10]; first | rfl | (simp [errW_none, errW_some] <;> rfl)) | (simp [*, errW_none, errW_some] <;> rfl), by repeat (first | (with_reducible first | exact HB.out | apply below_alloc | apply pw_below_drewN | apply below_drew1) | exact HB.out)⟩
                  · rw [if_neg c17] at H
                    have c17b0 : decide ((IntKind.u64.wrap (wrap64 ((t159.size : Int) - 8))) ≤ t165) = false := decide_eq_false c17
                    clear c17
                    obtain ⟨ji19, hji19⟩ : ∃ j_ : Int, (IntKind.u64.wrap (8 + t165)) = j_ := ⟨_, rfl⟩
                    replace H : (if 0 ≤ (ji19) then (if (ji19) < (t159.size : Int) then (if (bt t159 (ji19)) = 10 then (if 8 ≤ (ji19) then (if (ji19) ≤ (t159.size : Int) then (if 0 ≤ (IntKind.u64.wrap (9 + t165)) then (if (IntKind.u64.wrap (9 + t165)) ≤ (t159.size : Int) then ((export_printable.f (t159.extract 8 ((ji19) : Int).toNat)).bind fun t167 => (some (t158, t159.extract 8 ((ji19) : Int).toNat, t159.extract ((IntKind.u64.wrap (9 + t165)) : Int).toNat t159.size, !t167))) else (none)) else (none)) else (none)) else (none)) else (some ((⟨#[]⟩ : ByteArray), (⟨#[]⟩ : ByteArray), (⟨#[]⟩ : ByteArray), false))) else (none)) else (none)) = some (r1, r2, r3, r4) := by first | (rw [hji19] at H; exact H) | (simp only [hji19] at H ⊢; exact H)
                    (try rw [hji19] at A6)
                    (try rw [hji19] at A13)
                    by_cases c20 : 0 ≤ (ji19)
                    · rw [if_pos c20] at H
                      have c20b0 : decide (0 ≤ (ji19)) = true := decide_eq_true c20
                      clear c20
                      by_cases c21 : (ji19) < (t159.size : Int)
                      · rw [if_pos c21] at H
                        have c21b0 : decide ((ji19) < (t159.size : Int)) = true := decide_eq_true c21
                        clear c21
                        by_cases c23 : (bt t159 (ji19)) = 10
                        · rw [if_pos c23] at H
                          have c23b0 : ((bt t159 (ji19)) == 10) = true := beq_iff_eq.mpr c23
                          have c23b1 : ((bt t159 (ji19)) != 10) = false := bne_eq_false_iff_eq.mpr c23
                          clear c23
                          by_cases c24 : 8 ≤ (ji19)
                          · rw [if_pos c24] at H
                            have c24b0 := eq_true c24
                            have c24b1 : decide (8 ≤ (ji19)) = true := decide_eq_true c24
                            clear c24
                            by_cases c25 : (ji19) ≤ (t159.size : Int)
                            · rw [if_pos c25] at H
                              have c25b0 := eq_true c25
                              have c25b1 : decide ((ji19) ≤ (t159.size : Int)) = true := decide_eq_true c25
                              clear c25
                              obtain ⟨ji26, hji26⟩ : ∃ j_ : Int, (IntKind.u64.wrap (9 + t165)) = j_ := ⟨_, rfl⟩
                              replace H : (if 0 ≤ (ji26) then (if (ji26) ≤ (t159.size : Int) then ((export_printable.f (t159.extract 8 ((ji19) : Int).toNat)).bind fun t167 => (some (t158, t159.extract 8 ((ji19) : Int).toNat, t159.extract ((ji26) : Int).toNat t159.size, !t167))) else (none)) else (none)) = some (r1, r2, r3, r4) := by first | (rw [hji26] at H; exact H) | (simp only [hji26] at H ⊢; exact H)
                              (try rw [hji26] at A6)
                              (try rw [hji26] at A13)
                              by_cases c27 : 0 ≤ (ji26)
                              · rw [if_pos c27] at H
                                have c27b0 := eq_true c27
                                have c27b1 : decide (0 ≤ (ji26)) = true := decide_eq_true c27
                                clear c27
                                by_cases c28 : (ji26) ≤ (t159.size : Int)
                                · rw [if_pos c28] at H
                                  have c28b0 := eq_true c28
                                  have c28b1 : decide ((ji26) ≤ (t159.size : Int)) = true := decide_eq_true c28
                                  clear c28
                                  replace H := Option.bind_eq_some_iff.mp H
                                  obtain ⟨t167, A290, H⟩ := H
                                  replace H : (some (t158, t159.extract 8 ((ji19) : Int).toNat, t159.extract ((ji26) : Int).toNat t159.size, !t167)) = some (r1, r2, r3, r4) := H
                                  have A29 := Aside0.mk A290
                                  clear A290
                                  simp only [Option.some.injEq, Prod.mk.injEq] at H
                                  obtain ⟨rfl, rfl, rfl, rfl⟩ := H
                                  try go_wp2_with (first | ((with_reducible refine gate_callee (f := 42) rfl ?_); refine goesL_ (some 29) rfl rfl Tryd.func42 (by kernel_rfl) rfl #[.string t158, .string (⟨#[61]⟩ : ByteArray)] rfl (by (try simp only [List.map_toArray, List.map_cons, List.map_nil]); first | done | rfl | (simp only [List.length_drop, List.length_take]; rfl)) ?_; (with_reducible refine (strings_Cut.calls t158 (⟨#[61]⟩ : ByteArray) t161 t162 false _ A6.out).mono ?_); rintro e w' ⟨rfl, ⟨nd, rfl⟩⟩; refine ⟨_, rfl, ?_⟩) | (go_at_call 51; have hb_ : (wc.drewN nd).heap.size = wc.heap.size := rfl; (with_reducible refine (getS.calls kj2 X_ t165 true (wc.drewN nd) wc.heap.size hb_ HX_.out A13.out).mono ?_); rintro e w30 ⟨rfl, hb⟩; have n0_ := Aside0.mk (below_step (by repeat (first | (with_reducible first | exact HB.out | apply below_alloc | apply pw_below_drewN | apply below_drew1) | exact HB.out)) hb); clear HB; have HB := n0_; clear n0_; (try clear hb); (try clear hb2); (try clear hk); (try clear hi); have p22 : 0 ≤ ((ji19) : Int) := of_decide_eq_true (by first | (with_reducible assumption) | assumption); have q22 : (ji19) < (t159.size : Int) := of_decide_eq_true (by first | (with_reducible assumption) | assumption); have hx22 := bt_at t159 (ji19); replace p22 := eq_true p22; replace q22 := eq_true q22))
                                  have n0_ := Aside0.mk (below_drew1 HB.out)
                                  clear HB
                                  have HB := n0_
                                  clear n0_
                                  refine start_ (n := 13) (S := fun w' => True) (ds := []) #[false, false, false, false, false, false, false, false, false, false, false, false, false] (by kernel_rfl) rfl rfl trivial (fun hHeld => ?_); refine with_tabW export_field.tab11 export_field.bits11 (fun HT_ HW_ => ?_)
                                  generalize w30.drew = w31 at HB hHeld ⊢
                                  refine pure_ (i := 0) (N := some 74) (v := ?_) (a' := ?_) #[true, false, false, false, false, false, false, false, false, false, false, false, false] rfl rfl (any_of HT_.out (by kernel_rfl)) (fun _ _ _ h => h) (Or.inl ⟨by rfl, ?_⟩) ?_ ?_
                                  rotate_left
                                  · intro w'
                                    go_simp
                                    with_reducible rfl
                                  rotate_left
                                  · simp only [Act.put, List.setIfInBounds_toArray, List.set_cons_zero, List.set_cons_succ, i64_w, i32_w]
                                    rfl
                                  refine pure_ (i := 1) (N := some 75) (v := ?_) (a' := ?_) #[true, true, false, false, false, false, false, false, false, false, false, false, false] rfl rfl (any_of HT_.out (by kernel_rfl)) (fun _ _ _ h => h) (Or.inl ⟨by rfl, ?_⟩) ?_ ?_
                                  rotate_left
                                  · intro w'
                                    go_simp
                                    with_reducible rfl
                                  rotate_left
                                  · simp only [Act.put, List.setIfInBounds_toArray, List.set_cons_zero, List.set_cons_succ, i64_w, i32_w]
                                    rfl
                                  refine pure_ (i := 2) (N := some 76) (v := ?_) (a' := ?_) #[true, true, true, false, false, false, false, false, false, false, false, false, false] rfl rfl (any_of HT_.out (by kernel_rfl)) (fun _ _ _ h => h) (Or.inl ⟨by rfl, ?_⟩) ?_ ?_
                                  rotate_left
                                  · intro w'
                                    go_simp
                                    with_reducible rfl
                                  rotate_left
                                  · simp only [Act.put, List.setIfInBounds_toArray, List.set_cons_zero, List.set_cons_succ, i64_w, i32_w]
                                    rfl
                                  refine pure_ (i := 3) (N := some 77) (v := ?_) (a' := ?_) #[true, true, true, true, false, false, false, false, false, false, false, false, false] rfl rfl (any_of HT_.out (by kernel_rfl)) (fun _ _ _ h => h) (Or.inl ⟨by rfl, ?_⟩) ?_ ?_
                                  rotate_left
                                  · intro w'
                                    go_simp
                                    with_reducible rfl
                                  rotate_left
                                  · simp only [Act.put, List.setIfInBounds_toArray, List.set_cons_zero, List.set_cons_succ, i64_w, i32_w]
                                    rfl
                                  refine pure_ (i := 4) (N := some 78) (v := ?_) (a' := ?_) #[true, true, true, true, true, false, false, false, false, false, false, false, false] rfl rfl (any_of HT_.out (by kernel_rfl)) (fun _ _ _ h => h) (Or.inl ⟨by rfl, ?_⟩) ?_ ?_
                                  rotate_left
                                  · intro w'
                                    go_simp
                                    with_reducible rfl
                                  rotate_left
                                  · simp only [Act.put, List.setIfInBounds_toArray, List.set_cons_zero, List.set_cons_succ, i64_w, i32_w]
                                    rfl
                                  refine pure_ (i := 5) (N := some 79) (v := ?_) (a' := ?_) #[true, true, true, true, true, true, false, false, false, false, false, false, false] rfl rfl (any_of HT_.out (by kernel_rfl)) (fun _ _ _ h => h) (Or.inl ⟨by rfl, ?_⟩) ?_ ?_
                                  rotate_left
                                  · intro w'
                                    go_simp
                                    with_reducible rfl
                                  rotate_left
                                  · simp only [Act.put, List.setIfInBounds_toArray, List.set_cons_zero, List.set_cons_succ, i64_w, i32_w]
                                    rfl
                                  refine pure_ (i := 6) (N := some 80) (v := ?_) (a' := ?_) #[true, true, true, true, true, true, true, false, false, false, false, false, false] rfl rfl (any_of HT_.out (by kernel_rfl)) (fun _ _ _ h => h) (Or.inl ⟨by rfl, ?_⟩) ?_ ?_
                                  rotate_left
                                  · intro w'
                                    go_simp
                                    with_reducible rfl
                                  rotate_left
                                  · simp only [Act.put, List.setIfInBounds_toArray, List.set_cons_zero, List.set_cons_succ, i64_w, i32_w]
                                    rfl
                                  refine one_ (i := 7) (N := some 81) #[true, true, true, true, true, true, true, true, false, false, false, false, false] rfl rfl (one_of HT_.out (by kernel_rfl)) (by decide) (fun K hK => ?_)
                                  refine goes_ Tryd.func20 (by kernel_rfl) rfl #[.string (t159.extract 8 ((ji19) : Int).toNat)] (by rfl) rfl rfl (by (try simp only [List.map_toArray, List.map_cons, List.map_nil]); first | done | (simp only [hji19]; rfl) | rfl | (simp only [List.length_drop, List.length_take]; rfl)) ?_
                                  with_reducible refine (export_printable.calls (t159.extract 8 ((ji19) : Int).toNat) t167 _ A29.out).mono ?_
                                  rintro e w32 ⟨rfl, hb⟩
                                  refine ⟨_, rfl, ?_⟩
                                  have n0_ := Aside0.mk (below_step (by repeat (first | (with_reducible first | exact HB.out | apply below_alloc | apply pw_below_drewN | apply below_drew1) | exact HB.out)) hb)
                                  clear HB
                                  have HB := n0_
                                  clear n0_
                                  (try clear hb)
                                  (try clear hb2)
                                  (try clear hk)
                                  (try clear hi)
                                  refine hK.out _ _ trivial (fun hHeld => ?_)
                                  clear hK K
                                  refine norm_ (a' := ?_) ?_ ?_
                                  rotate_left
                                  · show Act.put _ (some 81) _ = _
                                    simp only [Act.put, List.setIfInBounds_toArray, List.set_cons_zero, List.set_cons_succ, i64_w, i32_w]
                                    rfl
                                  refine pure_ (i := 8) (N := some 82) (v := ?_) (a' := ?_) #[true, true, true, true, true, true, true, true, true, false, false, false, false] rfl rfl (any_of HT_.out (by kernel_rfl)) (fun _ _ _ h => h) (Or.inl ⟨by rfl, ?_⟩) ?_ ?_
                                  rotate_left
                                  · intro w'
                                    go_simp
                                    with_reducible rfl
                                  rotate_left
                                  · simp only [Act.put, List.setIfInBounds_toArray, List.set_cons_zero, List.set_cons_succ, i64_w, i32_w]
                                    rfl
                                  refine pure_ (i := 9) (N := some 2) (v := ?_) (a' := ?_) #[true, true, true, true, true, true, true, true, true, true, false, false, false] rfl rfl (any_of HT_.out (by kernel_rfl)) (fun _ _ _ h => h) (Or.inl ⟨by rfl, ?_⟩) ?_ ?_
                                  rotate_left
                                  · intro w'
                                    go_simp
                                    with_reducible rfl
                                  rotate_left
                                  · simp only [Act.put, List.setIfInBounds_toArray, List.set_cons_zero, List.set_cons_succ, i64_w, i32_w]
                                    rfl
                                  refine pure_ (i := 10) (N := some 3) (v := ?_) (a' := ?_) #[true, true, true, true, true, true, true, true, true, true, true, false, false] rfl rfl (any_of HT_.out (by kernel_rfl)) (fun _ _ _ h => h) (Or.inl ⟨by rfl, ?_⟩) ?_ ?_
                                  rotate_left
                                  · intro w'
                                    go_simp
                                    with_reducible rfl
                                  rotate_left
                                  · simp only [Act.put, List.setIfInBounds_toArray, List.set_cons_zero, List.set_cons_succ, i64_w, i32_w]
                                    rfl
                                  refine pure_ (i := 11) (N := some 4) (v := ?_) (a' := ?_) #[true, true, true, true, true, true, true, true, true, true, true, true, false] rfl rfl (any_of HT_.out (by kernel_rfl)) (fun _ _ _ h => h) (Or.inl ⟨by rfl, ?_⟩) ?_ ?_
                                  rotate_left
                                  · intro w'
                                    go_simp
                                    with_reducible rfl
                                  rotate_left
                                  · simp only [Act.put, List.setIfInBounds_toArray, List.set_cons_zero, List.set_cons_succ, i64_w, i32_w]
                                    rfl
                                  refine pure_ (i := 12) (N := some 5) (v := ?_) (a' := ?_) #[true, true, true, true, true, true, true, true, true, true, true, true, true] rfl rfl (any_of HT_.out (by kernel_rfl)) (fun _ _ _ h => h) (Or.inl ⟨by rfl, ?_⟩) ?_ ?_
                                  rotate_left
                                  · intro w'
                                    go_simp
                                    with_reducible rfl
                                  rotate_left
                                  · simp only [Act.put, List.setIfInBounds_toArray, List.set_cons_zero, List.set_cons_succ, i64_w, i32_w]
                                    rfl
                                  refine done_ (done_of HT_.out (by kernel_rfl)) ?_
                                  try go_wp2
                                  refine bodyPost_ret (results_list (rs := [.tmp 2, .tmp 3, .tmp 4, .tmp 5]) rfl (by simp) (.tmp (.tmp (.tmp (.tmp .nil))))) rfl ?_
                                  exact ⟨by first | rfl | (simp [errW_none, errW_some] <;> rfl) | (simp only [← hji10, ← hji19, ← hji26]; first | rfl | (simp [errW_none, errW_some] <;> rfl)) | (simp [*, errW_none, errW_some] <;> rfl), by repeat (first | (with_reducible first | exact HB.out | apply below_alloc | apply pw_below_drewN | apply below_drew1) | exact HB.out)⟩
                                · rw [if_neg c28] at H
                                  exact absurd H (by simp)
                              · rw [if_neg c27] at H
                                exact absurd H (by simp)
                            · rw [if_neg c25] at H
                              exact absurd H (by simp)
                          · rw [if_neg c24] at H
                            exact absurd H (by simp)
                        · rw [if_neg c23] at H
                          have c23b0 : ((bt t159 (ji19)) == 10) = false := beq_eq_false_iff_ne.mpr c23
                          have c23b1 : ((bt t159 (ji19)) != 10) = true := bne_iff_ne.mpr c23
                          simp only [Option.some.injEq, Prod.mk.injEq] at H
                          obtain ⟨rfl, rfl, rfl, rfl⟩ := H
                          go_wp2_with (first | ((with_reducible refine gate_callee (f := 42) rfl ?_); refine goesL_ (some 29) rfl rfl Tryd.func42 (by kernel_rfl) rfl #[.string t158, .string (⟨#[61]⟩ : ByteArray)] rfl (by (try simp only [List.map_toArray, List.map_cons, List.map_nil]); first | done | rfl | (simp only [List.length_drop, List.length_take]; rfl)) ?_; (with_reducible refine (strings_Cut.calls t158 (⟨#[61]⟩ : ByteArray) t161 t162 false _ A6.out).mono ?_); rintro e w' ⟨rfl, ⟨nd, rfl⟩⟩; refine ⟨_, rfl, ?_⟩) | (go_at_call 51; have hb_ : (wc.drewN nd).heap.size = wc.heap.size := rfl; (with_reducible refine (getS.calls kj2 X_ t165 true (wc.drewN nd) wc.heap.size hb_ HX_.out A13.out).mono ?_); rintro e w33 ⟨rfl, hb⟩; have n0_ := Aside0.mk (below_step (by repeat (first | (with_reducible first | exact HB.out | apply below_alloc | apply pw_below_drewN | apply below_drew1) | exact HB.out)) hb); clear HB; have HB := n0_; clear n0_; (try clear hb); (try clear hb2); (try clear hk); (try clear hi); have p22 : 0 ≤ ((ji19) : Int) := of_decide_eq_true (by first | (with_reducible assumption) | assumption); have q22 : (ji19) < (t159.size : Int) := of_decide_eq_true (by first | (with_reducible assumption) | assumption); have hx22 := bt_at t159 (ji19); replace p22 := eq_true p22; replace q22 := eq_true q22))
                          refine bodyPost_ret (results_list (rs := [.tmp 2, .tmp 3, .tmp 4, .tmp 5]) rfl (by simp) (.tmp (.tmp (.tmp (.tmp .nil))))) rfl ?_
                          exact ⟨by first | rfl | (simp [errW_none, errW_some] <;> rfl) | (simp only [← hji10, ← hji19]; first | rfl | (simp [errW_none, errW_some] <;> rfl)) | (simp [*, errW_none, errW_some] <;> rfl), by repeat (first | (with_reducible first | exact HB.out | apply below_alloc | apply pw_below_drewN | apply below_drew1) | exact HB.out)⟩
                      · rw [if_neg c21] at H
                        exact absurd H (by simp)
                    · rw [if_neg c20] at H
                      exact absurd H (by simp)
              · replace c14 := Bool.eq_false_iff.mpr c14
                subst c14
                have H1 : (some ((⟨#[]⟩ : ByteArray), (⟨#[]⟩ : ByteArray), (⟨#[]⟩ : ByteArray), false)) = some (r1, r2, r3, r4) := by rw [if_neg (show ¬ (false = true) by decide)] at H; exact H
                clear H
                have H := H1
                clear H1
                simp only [Option.some.injEq, Prod.mk.injEq] at H
                obtain ⟨rfl, rfl, rfl, rfl⟩ := H
                go_wp2_with (first | ((with_reducible refine gate_callee (f := 42) rfl ?_); refine goesL_ (some 29) rfl rfl Tryd.func42 (by kernel_rfl) rfl #[.string t158, .string (⟨#[61]⟩ : ByteArray)] rfl (by (try simp only [List.map_toArray, List.map_cons, List.map_nil]); first | done | rfl | (simp only [List.length_drop, List.length_take]; rfl)) ?_; (with_reducible refine (strings_Cut.calls t158 (⟨#[61]⟩ : ByteArray) t161 t162 false _ A6.out).mono ?_); rintro e w' ⟨rfl, ⟨nd, rfl⟩⟩; refine ⟨_, rfl, ?_⟩) | (go_at_call 51; have hb_ : (wc.drewN nd).heap.size = wc.heap.size := rfl; (with_reducible refine (getS.calls kj2 X_ t165 false (wc.drewN nd) wc.heap.size hb_ HX_.out A13.out).mono ?_); rintro e w34 ⟨rfl, hb⟩; have n0_ := Aside0.mk (below_step (by repeat (first | (with_reducible first | exact HB.out | apply below_alloc | apply pw_below_drewN | apply below_drew1) | exact HB.out)) hb); clear HB; have HB := n0_; clear n0_; (try clear hb); (try clear hb2); (try clear hk); (try clear hi)))
                refine bodyPost_ret (results_list (rs := [.tmp 2, .tmp 3, .tmp 4, .tmp 5]) rfl (by simp) (.tmp (.tmp (.tmp (.tmp .nil))))) rfl ?_
                exact ⟨by first | rfl | (simp [errW_none, errW_some] <;> rfl) | (simp only [← hji10]; first | rfl | (simp [errW_none, errW_some] <;> rfl)) | (simp [*, errW_none, errW_some] <;> rfl), by repeat (first | (with_reducible first | exact HB.out | apply below_alloc | apply pw_below_drewN | apply below_drew1) | exact HB.out)⟩
            · rw [if_neg c12] at H
              exact absurd H (by simp)
          · rw [if_neg c11] at H
            exact absurd H (by simp)

-- GIVEN rounds=0 making=1

-- GIVEN rounds=0 making=1
/-! ### export_Number: by hand: a loop over []byte(s) -/
def numGo : List Int → Int → Option Int
  | [], n => some n
  | c :: r, n => if c < 48 ∨ 57 < c then none else if (18446744073709551615 - (c - 48)) / 10 < n then none else numGo r (10 * n + (c - 48))
def export_Number.f (a0 : ByteArray) : Option (Int × Bool) :=
  if a0.size = 0 then some (0, false) else if a0.size > 20 then some (0, false) else if bt a0 0 = 48 ∧ a0.size > 1 then some (0, false) else some (match numGo (bytesOf a0) 0 with | some n => (n, true) | none => (0, false))
theorem drop_bytes (s : ByteArray) (k : Nat) (h : k < s.size) : (bytesOf s).drop k = ((s.data.toList.getD k 0).toNat : Int) :: (bytesOf s).drop (k + 1) := by
  have h1 : k < (bytesOf s).length := by rw [bytesOf_len]; exact h
  rw [List.drop_eq_getElem_cons h1]
  have h2 := bytesOf_get s k h
  rw [List.getElem?_eq_getElem h1] at h2
  rw [Option.some.inj h2]
theorem numGo_bad {c n : Int} {r : List Int} (h : c < 48 ∨ 57 < c) : numGo (c :: r) n = none := if_pos h
theorem numGo_big {c n : Int} {r : List Int} (h1 : 48 ≤ c) (h2 : c ≤ 57) (h : (18446744073709551615 - (c - 48)) / 10 < n) : numGo (c :: r) n = none := by
  show (if _ then _ else _) = _
  rw [if_neg (by omega), if_pos h]
theorem numGo_go {c n : Int} {r : List Int} (h1 : 48 ≤ c) (h2 : c ≤ 57) (h : n ≤ (18446744073709551615 - (c - 48)) / 10) : numGo (c :: r) n = numGo r (10 * n + (c - 48)) := by
  show (if _ then _ else _) = _
  rw [if_neg (by omega), if_neg (by omega)]
theorem ret_u64_bool {a b : Int} {p q : Bool} (h : a = b) (h2 : p = q) : Ending.returned (.tuple #[.int .u64 a, .bool p]) = .returned (.tuple #[.int .u64 b, .bool q]) := by rw [h, h2]
set_option maxHeartbeats 3200000 in
theorem export_Number.calls (a0 : ByteArray) (r1 : Int) (r2 : Bool) (w : World) (h : export_Number.f a0 = some (r1, r2)) :
    Calls Tryd.prog 53 #[.string a0] w fun e w' => e = .returned (.tuple #[.int .u64 r1, .bool r2]) ∧ Below w.heap.size w w' := by
  unfold export_Number.f at h
  have kc := fun (w : World) => Lib.run_convert_string_bytes (P := Tryd.prog) w 9 51 5 a0 Tryd.underlying9 Tryd.underlying51 Tryd.underlying5
  by_cases hz : a0.size = 0
  · rw [if_pos hz] at h
    injection h with h
    injection h with ha hb
    subst ha hb
    have e1 := toList_nil hz
    clear hz
    go_enter Tryd.func53, Tryd.ntmps53
    go_wp2
    go_ret2
    exact ⟨rfl, Below.refl _ _⟩
  rw [if_neg hz] at h
  obtain ⟨e1, e2⟩ := toList_ne hz
  by_cases h64 : a0.size > 20
  · rw [if_pos h64] at h
    injection h with h
    injection h with ha hb
    subst ha hb
    have e3 : 20 < (a0.size : Int) := by omega
    clear hz
    go_enter Tryd.func53, Tryd.ntmps53
    go_wp2
    go_ret2
    exact ⟨rfl, Below.refl _ _⟩
  rw [if_neg h64] at h
  have e3 : (a0.size : Int) ≤ 20 := by omega
  have e4 : 0 < a0.size := by omega
  have e5 := bt0 e4
  rw [e5] at h
  clear e5 hz
  have hB := below_bytes w 5 a0
  have HC : Hid (∀ k, k < a0.size → (Lib.bytesWorld w 5 a0).cell? ⟨w.heap.size, k, none⟩ = some (.int .u8 (a0.data.toList.getD k 0).toNat)) := Lib.hid (fun k hk => Lib.bytesWorld_cell w 5 a0 k hk)
  by_cases hd : ((a0[0]'e4).toNat : Int) = (48 : Int) ∧ a0.size > 1
  · rw [if_pos hd] at h
    injection h with h
    injection h with ha hb
    subst ha hb
    obtain ⟨d1, d2⟩ := hd
    have d3 : 1 < (a0.size : Int) := by omega
    go_enter Tryd.func53, Tryd.ntmps53
    go_wp2
    go_ret2
    exact ⟨rfl, Below.refl _ _⟩
  rw [if_neg hd] at h
  have hr := Lib.hid (Option.some.inj h)
  clear h
  have hd' : (((a0[0]'e4).toNat : Int) == (48 : Int)) = false ∨ (((a0[0]'e4).toNat : Int) == (48 : Int)) = true ∧ (a0.size : Int) ≤ 1 := by
    by_cases e : ((a0[0]'e4).toNat : Int) = (48 : Int)
    · exact .inr ⟨by rw [e]; rfl, by have : ¬ a0.size > 1 := fun h => hd ⟨e, h⟩; omega⟩
    · exact .inl (beq_eq_false_iff_ne.2 e)
  clear hd
  rcases hd' with d1 | ⟨d1, d2⟩
  all_goals
    go_enter Tryd.func53, Tryd.ntmps53
    go_wp2
    go_loop [28, 4, 6, 7] (fun i n c d => ∃ (k : Nat) (m : Int), k ≤ a0.size ∧ i = .int .i64 k ∧ n = .int .u64 m ∧ 0 ≤ m ∧ m ≤ 18446744073709551615 ∧ Hid (numGo ((bytesOf a0).drop k) m = numGo (bytesOf a0) 0)) (fun i _ _ _ => a0.size - (intOf i).toNat)
    case atStart => exact ⟨0, 0, Nat.zero_le _, rfl, rfl, by omega, by omega, Lib.hid rfl⟩
    case round =>
      obtain ⟨k, m, hk, rfl, rfl, hm0, hm1, ha⟩ := hrel
      by_cases hlt : k < a0.size
      · have hc := HC.out k hlt
        have hb := byte_range a0 k
        have HD := Lib.hid (drop_bytes a0 k hlt)
        generalize hg : ((a0.data.toList.getD k 0).toNat : Int) = c at hc hb HD
        clear hg
        by_cases c1 : c < 48
        · go_wp2
          go_ret2
          refine ⟨?_, hB⟩
          have := hr.out
          rw [← ha.out, HD.out, numGo_bad (.inl c1)] at this
          injection this with q1 q2
          exact ret_u64_bool q1 q2
        by_cases c2 : 57 < c
        · have c3 : 48 ≤ c := by omega
          go_wp2
          go_ret2
          refine ⟨?_, hB⟩
          have := hr.out
          rw [← ha.out, HD.out, numGo_bad (.inr c2)] at this
          injection this with q1 q2
          exact ret_u64_bool q1 q2
        have c3 : 48 ≤ c := by omega
        have c4 : c ≤ 57 := by omega
        by_cases c5 : (18446744073709551615 - (c - 48)) / 10 < m
        · clear c1 c2
          go_wp2
          go_ret2
          refine ⟨?_, hB⟩
          have := hr.out
          rw [← ha.out, HD.out, numGo_big c3 c4 c5] at this
          injection this with q1 q2
          exact ret_u64_bool q1 q2
        · have c6 : m ≤ (18446744073709551615 - (c - 48)) / 10 := by omega
          clear c1 c2 c5
          go_wp2
          go_round
          case rel => exact ⟨k + 1, 10 * m + (c - 48), by omega, by go_num, rfl, by omega, by omega, Lib.hid (by rw [← ha.out, HD.out, numGo_go c3 c4 c6])⟩
          case measure => simp [intOf]; omega
      · go_wp2
        go_ret2
        refine ⟨?_, hB⟩
        have := hr.out
        rw [← ha.out, List.drop_of_length_le (by rw [bytesOf_len]; omega)] at this
        injection this with q1 q2
        exact ret_u64_bool q1 q2

-- GIVEN rounds=0 making=1 needs=logbook/export.Number,logbook/name.Number
/-! ### export.tell: by hand: it writes one cell of a cursor, or a text -/
def tellKeys : List ByteArray := [⟨#[95, 95, 67, 85, 82, 83, 79, 82]⟩, ⟨#[95, 95, 82, 69, 65, 76, 84, 73, 77, 69, 95, 84, 73, 77, 69, 83, 84, 65, 77, 80]⟩, ⟨#[95, 95, 77, 79, 78, 79, 84, 79, 78, 73, 67, 95, 84, 73, 77, 69, 83, 84, 65, 77, 80]⟩, ⟨#[95, 95, 66, 79, 79, 84, 95, 73, 68]⟩, ⟨#[95, 95, 83, 69, 81, 78, 85, 77]⟩, ⟨#[95, 95, 83, 69, 81, 78, 85, 77, 95, 73, 68]⟩]
def tellCells : Array Value := (tellKeys.map Value.string).toArray
def tellV (i : Nat) (v : ByteArray) : Option (Int × Bool) := if i = 3 ∨ i = 5 then name_Number.f v else export_Number.f v
theorem tellCells_at (w : World) (k : Nat) (h : k < 6) : (w.alloc (.cells tellCells 88)).cell? ⟨w.heap.size, k, none⟩ = some (.string (tellKeys.getD k ⟨#[]⟩)) := by
  have h2 : k < tellKeys.length := h
  have e : tellCells[k]? = some (.string (tellKeys.getD k ⟨#[]⟩)) := by
    unfold tellCells
    rw [List.getElem?_toArray, List.getElem?_map, List.getD_eq_getElem?_getD, List.getElem?_eq_getElem h2]
    rfl
  rw [← e]
  unfold World.cell?
  rw [heap_alloc_new]
  rfl
set_option maxHeartbeats 1600000 in
set_option maxRecDepth 100000 in
theorem tell_no (i : Nat) (hi : i < 6) (key v : ByteArray) (P1 P2 : Value) (w : World) (h : (key.toList == (tellKeys.getD i ⟨#[]⟩).toList) = false) :
    Calls Tryd.prog 37 #[P1, P2, .int .i64 (i : Int), .string key, .string v] w fun e w' => e = .returned (.bool false) ∧ Below w.heap.size w w' := by
  have hB : Below w.heap.size w (w.alloc (.cells tellCells 88)) := (Below.refl _ _).alloc (Nat.le_refl _) _
  have hB := Lib.hid hB
  have hc := tellCells_at w i hi
  generalize tellKeys.getD i ⟨#[]⟩ = x at hc h
  have h2 : (i : Int) < 6 := by omega
  have h3 : (0 : Int) ≤ (i : Int) := by omega
  go_enter Tryd.func37, Tryd.ntmps37
  go_wp2_with (first
      | (refine wpList_buildTo rfl 88 _ rfl (some 13) rfl tellCells (by kernel_rfl) ?_)
      | (refine wpList_store_rowTo rfl 88 _ _ rfl rfl w.heap.size tellCells rfl rfl 88 _ (heap_alloc_new _ _) (by kernel_rfl) (by kernel_rfl) (by kernel_rfl) ?_; rw [World.setRow_alloc_new]))
  go_ret
  exact ⟨rfl, hB.out⟩
set_option maxHeartbeats 1600000 in
set_option maxRecDepth 100000 in
theorem tell_text (key v t0 : ByteArray) (gt : Nat) (P1 : Value) (w : World) (hT : w.heap[gt]? = some (.cells #[.string t0] 9 (0, 0))) (h : (key.toList == (tellKeys.getD 0 ⟨#[]⟩).toList) = true) :
    Calls Tryd.prog 37 #[P1, .pointer (some ⟨gt, 0, none⟩), .int .i64 0, .string key, .string v] w fun e w' => e = .returned (.bool true) ∧ ∃ w2, Below w.heap.size w w2 ∧ w' = w2.setCell ⟨gt, 0, none⟩ (.string v) := by
  have hB : Below w.heap.size w (w.alloc (.cells tellCells 88)) := (Below.refl _ _).alloc (Nat.le_refl _) _
  have hB := Lib.hid hB
  have hc := tellCells_at w 0 (by decide)
  have k5 := blk_cell (blk_below hT hB.out) 0
  have f5 := blk_frozen (blk_below hT hB.out) 0
  simp only [List.getElem?_toArray, List.getElem?_cons_zero] at k5
  generalize tellKeys.getD 0 ⟨#[]⟩ = x at hc h
  clear hT
  go_enter Tryd.func37, Tryd.ntmps37
  go_wp2_with (first
      | (refine wpList_buildTo rfl 88 _ rfl (some 13) rfl tellCells (by kernel_rfl) ?_)
      | (refine wpList_store_rowTo rfl 88 _ _ rfl rfl w.heap.size tellCells rfl rfl 88 _ (heap_alloc_new _ _) (by kernel_rfl) (by kernel_rfl) (by kernel_rfl) ?_; rw [World.setRow_alloc_new]))
  go_ret
  exact ⟨rfl, _, hB.out, rfl⟩
set_option maxHeartbeats 6400000 in
set_option maxRecDepth 100000 in
theorem tell_num (i : Nat) (hi : 0 < i ∧ i < 6) (key v : ByteArray) (n : Int) (b : Bool) (x0 x1 x2 x3 x4 x5 : Int) (gc : Nat) (P2 : Value) (w : World) (hC : w.heap[gc]? = some (.cells #[.int .u64 x0, .int .u64 x1, .int .u64 x2, .int .u64 x3, .int .u64 x4, .int .u64 x5] 30 (0, 0)))
    (hk : (key.toList == (tellKeys.getD i ⟨#[]⟩).toList) = true) (h : tellV i v = some (n, b)) :
    Calls Tryd.prog 37 #[.pointer (some ⟨gc, 0, none⟩), P2, .int .i64 (i : Int), .string key, .string v] w fun e w' => e = .returned (.bool b) ∧ ∃ w2, Below w.heap.size w w2 ∧ w' = w2.setCell ⟨gc, 5 - i, none⟩ (.int .u64 n) := by
  have hB : Below w.heap.size w (w.alloc (.cells tellCells 88)) := (Below.refl _ _).alloc (Nat.le_refl _) _
  have hB := Lib.hid hB
  have hc := tellCells_at w i hi.2
  have HC := Lib.hid (blk_below hC hB.out)
  clear hC
  obtain ⟨h1, h2⟩ := hi
  obtain rfl | rfl | rfl | rfl | rfl : i = 1 ∨ i = 2 ∨ i = 3 ∨ i = 4 ∨ i = 5 := by omega
  all_goals
    first
      | (have HN : Hid (export_Number.f v = some (n, b)) := Lib.hid (by unfold tellV at h; rw [if_neg (by decide)] at h; exact h))
      | (have HN : Hid (name_Number.f v = some (n, b)) := Lib.hid (by unfold tellV at h; rw [if_pos (by decide)] at h; exact h))
    clear h
    generalize tellKeys.getD _ ⟨#[]⟩ = x at hc hk
    go_enter Tryd.func37, Tryd.ntmps37
    go_wp2_with (first
      | (refine wpList_buildTo rfl 88 _ rfl (some 13) rfl tellCells (by kernel_rfl) ?_)
      | (refine wpList_store_rowTo rfl 88 _ _ rfl rfl w.heap.size tellCells rfl rfl 88 _ (heap_alloc_new _ _) (by kernel_rfl) (by kernel_rfl) (by kernel_rfl) ?_; rw [World.setRow_alloc_new])
      | (go_at_call 50; (with_reducible refine (name_Number.calls v n b _ HN.out).mono ?_); rintro e w5 ⟨rfl, hb5⟩; have HB5 := Lib.hid (hB.out.trans (hb5.mono hB.out.size)); have HC5 := Lib.hid (blk_below HC.out hb5); have k0 := blk_cell HC5.out 0; have k1 := blk_cell HC5.out 1; have k2 := blk_cell HC5.out 2; have k3 := blk_cell HC5.out 3; have k4 := blk_cell HC5.out 4; have f0 := blk_frozen HC5.out 0; have f1 := blk_frozen HC5.out 1; have f2 := blk_frozen HC5.out 2; have f3 := blk_frozen HC5.out 3; have f4 := blk_frozen HC5.out 4; simp at k0 k1 k2 k3 k4; clear hb5)
      | (go_at_call 53; (with_reducible refine (export_Number.calls v n b _ HN.out).mono ?_); rintro e w5 ⟨rfl, hb5⟩; have HB5 := Lib.hid (hB.out.trans (hb5.mono hB.out.size)); have HC5 := Lib.hid (blk_below HC.out hb5); have k0 := blk_cell HC5.out 0; have k1 := blk_cell HC5.out 1; have k2 := blk_cell HC5.out 2; have k3 := blk_cell HC5.out 3; have k4 := blk_cell HC5.out 4; have f0 := blk_frozen HC5.out 0; have f1 := blk_frozen HC5.out 1; have f2 := blk_frozen HC5.out 2; have f3 := blk_frozen HC5.out 3; have f4 := blk_frozen HC5.out 4; simp at k0 k1 k2 k3 k4; clear hb5))
    go_ret
    exact ⟨rfl, _, HB5.out, rfl⟩

end Go.Proofs.YtbbegchdlkmebaaDoor.PExportBack
