-- LAID BY gprint.py: a scratch copy of the print, with functions that this session proved by hand among the printed ones
import Derived.Test.YtbbegchdlkmebaaDoorPExportReadsx0
import Derived.Test.YtbbegchdlkmebaaDoorPExportReadsx8
import Derived.Test.YtbbegchdlkmebaaDoorPExportReadsx10
import Derived.Test.YtbbegchdlkmebaaDoorPExportReadsx11
import Derived.Test.YtbbegchdlkmebaaDoorPExportReadsx12
namespace Go.Proofs.YtbbegchdlkmebaaDoor.PExportReads
open Go.RowKit Go.Proofs.YtbbegchdlkmebaaDoorW.PrintWords Go.Proofs.YtbbegchdlkmebaaDoorW.PrintLast Go.Proofs.YtbbegchdlkmebaaDoor.Conv Go.Proofs.YtbbegchdlkmebaaDoor.Bld Go.Proofs.YtbbegchdlkmebaaDoorW.PrintMore
attribute [local go_sem] max2_int min2_int max_two min_two max_three min_three max_four min_four gtr_less   -- for this text's walks alone
set_option linter.unusedVariables false
set_option linter.unusedSimpArgs false

/-! ### logbookref32_Read: function 14 -/
mutual
def logbookref32_Read.j0 : Nat → ByteArray → Int → Bool → Option (Int × Int × Int × Int × Int × Int × List ByteArray × Int × Bool)
 | 0, _, _, _ => none
 | k + 1, x0, x6, x23 => if x23 = true then (some (0, 0, 0, 0, 0, 0, ([] : List ByteArray), 0, false)) else (if 9 ≤ x6 then (if x6 ≤ (x0.size : Int) then ((logbookref29_Parse.f k (x0.extract 9 (x6 : Int).toNat)).bind fun bt201 => ((logbookref32_Entry.f k bt201.1 bt201.2.1 bt201.2.2.1 bt201.2.2.2.1 bt201.2.2.2.2.1 bt201.2.2.2.2.2.1 ([] : List ByteArray)).bind fun t209 => (if bt201.2.2.2.2.2.2 = true then (if (x0.size : Int) < (wrap64 ((t209.size : Int) - 1)) then (logbookref32_Read.j1 k x0 (wrap64 ((t209.size : Int) - 1)) true bt201.1 bt201.2.1 bt201.2.2.1 bt201.2.2.2.1 bt201.2.2.2.2.1 bt201.2.2.2.2.2.1) else (if 0 ≤ (wrap64 ((t209.size : Int) - 1)) then (if (wrap64 ((t209.size : Int) - 1)) ≤ (x0.size : Int) then (if (wrap64 ((t209.size : Int) - 1)) ≤ (t209.size : Int) then (logbookref32_Read.j1 k x0 (wrap64 ((t209.size : Int) - 1)) ((x0.extract 0 ((wrap64 ((t209.size : Int) - 1)) : Int).toNat).toList != (t209.extract 0 ((wrap64 ((t209.size : Int) - 1)) : Int).toNat).toList) bt201.1 bt201.2.1 bt201.2.2.1 bt201.2.2.2.1 bt201.2.2.2.2.1 bt201.2.2.2.2.2.1) else (none)) else (none)) else (none))) else (logbookref32_Read.j1 k x0 (wrap64 ((t209.size : Int) - 1)) true bt201.1 bt201.2.1 bt201.2.2.1 bt201.2.2.2.1 bt201.2.2.2.2.1 bt201.2.2.2.2.2.1)))) else (none)) else (none))
def logbookref32_Read.j1 : Nat → ByteArray → Int → Bool → Int → Int → Int → Int → Int → Int → Option (Int × Int × Int × Int × Int × Int × List ByteArray × Int × Bool)
 | 0, _, _, _, _, _, _, _, _, _ => none
 | k + 1, x0, x10, x53, x209000, x209001, x209002, x209003, x209004, x209005 => if x53 = true then (some (0, 0, 0, 0, 0, 0, ([] : List ByteArray), 0, false)) else (logbookref32_Read.l0 k x0 x10 ([] : List ByteArray) 0 x209000 x209001 x209002 x209003 x209004 x209005)
def logbookref32_Read.l0 : Nat → ByteArray → Int → List ByteArray → Int → Int → Int → Int → Int → Int → Int → Option (Int × Int × Int × Int × Int × Int × List ByteArray × Int × Bool)
 | 0, _, _, _, _, _, _, _, _, _, _ => none
 | k + 1, x0, x10, x11, x12, x209000, x209001, x209002, x209003, x209004, x209005 => if x12 ≤ 64 then (if x10 < (x0.size : Int) then (if 0 ≤ x10 then (if (bt x0 x10) = 10 then (logbookref32_Read.j3 k x0 x10 x11 x12 (decide (x12 > 0)) x209000 x209001 x209002 x209003 x209004 x209005) else (logbookref32_Read.j3 k x0 x10 x11 x12 false x209000 x209001 x209002 x209003 x209004 x209005)) else (none)) else (logbookref32_Read.j3 k x0 x10 x11 x12 false x209000 x209001 x209002 x209003 x209004 x209005)) else (some (0, 0, 0, 0, 0, 0, ([] : List ByteArray), 0, false))
def logbookref32_Read.j3 : Nat → ByteArray → Int → List ByteArray → Int → Bool → Int → Int → Int → Int → Int → Int → Option (Int × Int × Int × Int × Int × Int × List ByteArray × Int × Bool)
 | 0, _, _, _, _, _, _, _, _, _, _, _ => none
 | k + 1, x0, x10, x11, x12, x72, x209000, x209001, x209002, x209003, x209004, x209005 => if x72 = true then (some (x209000, x209001, x209002, x209003, x209004, x209005, x11, wrap64 (x10 + 1), true)) else (if 0 ≤ x10 then (if x10 ≤ (x0.size : Int) then ((logbookref32_item.f k (x0.extract (x10 : Int).toNat x0.size)).bind fun bt210 => (if bt210.2 = true then (if (bt210.1.size : Int) > 1024 then (some (0, 0, 0, 0, 0, 0, ([] : List ByteArray), 0, false)) else (if (bt210.1.size : Int) > 1 then (if 0 ≤ 2 then (if 2 ≤ (bt210.1.size : Int) then (if (bt210.1.extract 0 2).toList = ([95, 95] : List UInt8) then (some (0, 0, 0, 0, 0, 0, ([] : List ByteArray), 0, false)) else (if x11.length < 8796093022208 then ((logbookref32_Item.f k bt210.1).bind fun t215 => (logbookref32_Read.l0 k x0 (wrap64 (x10 + (t215.size : Int))) (x11 ++ [bt210.1]) (wrap64 (x12 + 1)) x209000 x209001 x209002 x209003 x209004 x209005)) else (none))) else (none)) else (none)) else (if x11.length < 8796093022208 then ((logbookref32_Item.f k bt210.1).bind fun t219 => (logbookref32_Read.l0 k x0 (wrap64 (x10 + (t219.size : Int))) (x11 ++ [bt210.1]) (wrap64 (x12 + 1)) x209000 x209001 x209002 x209003 x209004 x209005)) else (none)))) else (some (0, 0, 0, 0, 0, 0, ([] : List ByteArray), 0, false)))) else (none)) else (none))
end
def logbookref32_Read.f (k : Nat) (a0 : ByteArray) : Option (Int × Int × Int × Int × Int × Int × List ByteArray × Int × Bool) := (logbookref32_till.f k a0 0 10).bind fun t200 => (if t200 < 9 then (logbookref32_Read.j0 k a0 t200 true) else (if 0 ≤ 9 then (if 9 ≤ (a0.size : Int) then (logbookref32_Read.j0 k a0 t200 ((a0.extract 0 9).toList != ([95, 95, 67, 85, 82, 83, 79, 82, 61] : List UInt8))) else (none)) else (none)))
theorem logbookref32_Read.mono_l : ∀ k, (∀ y0 y1 y2, LeO (logbookref32_Read.j0 k y0 y1 y2) (logbookref32_Read.j0 (k + 1) y0 y1 y2)) ∧ (∀ y0 y1 y2 y3 y4 y5 y6 y7 y8, LeO (logbookref32_Read.j1 k y0 y1 y2 y3 y4 y5 y6 y7 y8) (logbookref32_Read.j1 (k + 1) y0 y1 y2 y3 y4 y5 y6 y7 y8)) ∧ (∀ y0 y1 y2 y3 y4 y5 y6 y7 y8 y9, LeO (logbookref32_Read.l0 k y0 y1 y2 y3 y4 y5 y6 y7 y8 y9) (logbookref32_Read.l0 (k + 1) y0 y1 y2 y3 y4 y5 y6 y7 y8 y9)) ∧ (∀ y0 y1 y2 y3 y4 y5 y6 y7 y8 y9 y10, LeO (logbookref32_Read.j3 k y0 y1 y2 y3 y4 y5 y6 y7 y8 y9 y10) (logbookref32_Read.j3 (k + 1) y0 y1 y2 y3 y4 y5 y6 y7 y8 y9 y10))
 | 0 => ⟨fun _ _ _ r h => by simp [logbookref32_Read.j0] at h, fun _ _ _ _ _ _ _ _ _ r h => by simp [logbookref32_Read.j1] at h, fun _ _ _ _ _ _ _ _ _ _ r h => by simp [logbookref32_Read.l0] at h, fun _ _ _ _ _ _ _ _ _ _ _ r h => by simp [logbookref32_Read.j3] at h⟩
 | k + 1 => by
  obtain ⟨ih0, ih1, ih2, ih3⟩ := logbookref32_Read.mono_l k
  refine ⟨?_, ?_, ?_, ?_⟩
  ·intro y0 y1 y2
   unfold logbookref32_Read.j0
   repeat' first
   | (with_reducible exact ih0 _ _ _)
   | (with_reducible exact ih1 _ _ _ _ _ _ _ _ _)
   | (with_reducible exact ih2 _ _ _ _ _ _ _ _ _ _)
   | (with_reducible exact ih3 _ _ _ _ _ _ _ _ _ _ _)
   | (with_reducible exact logbookref29_Parse.mono _ _)
   | (with_reducible exact logbookref32_Entry.mono _ _ _ _ _ _ _ _)
   | (with_reducible exact logbookref32_Item.mono _ _)
   | (with_reducible exact logbookref32_item.mono _ _)
   | (with_reducible exact logbookref32_till.mono _ _ _ _)
   | (with_reducible exact LeO.refl _)
   | (with_reducible exact LeO.none _)
   | (with_reducible refine LeO.ite ?_ ?_)
   | (with_reducible refine LeO.bind ?_ (fun _ => ?_))
   | exact ih0 _ _ _
   | exact ih1 _ _ _ _ _ _ _ _ _
   | exact ih2 _ _ _ _ _ _ _ _ _ _
   | exact ih3 _ _ _ _ _ _ _ _ _ _ _
   | exact logbookref29_Parse.mono _ _
   | exact logbookref32_Entry.mono _ _ _ _ _ _ _ _
   | exact logbookref32_Item.mono _ _
   | exact logbookref32_item.mono _ _
   | exact logbookref32_till.mono _ _ _ _
   | exact LeO.none _
   | refine LeO.ite ?_ ?_
   | refine LeO.bind ?_ (fun _ => ?_)
  ·intro y0 y1 y2 y3 y4 y5 y6 y7 y8
   unfold logbookref32_Read.j1
   repeat' first
   | (with_reducible exact ih0 _ _ _)
   | (with_reducible exact ih1 _ _ _ _ _ _ _ _ _)
   | (with_reducible exact ih2 _ _ _ _ _ _ _ _ _ _)
   | (with_reducible exact ih3 _ _ _ _ _ _ _ _ _ _ _)
   | (with_reducible exact logbookref29_Parse.mono _ _)
   | (with_reducible exact logbookref32_Entry.mono _ _ _ _ _ _ _ _)
   | (with_reducible exact logbookref32_Item.mono _ _)
   | (with_reducible exact logbookref32_item.mono _ _)
   | (with_reducible exact logbookref32_till.mono _ _ _ _)
   | (with_reducible exact LeO.refl _)
   | (with_reducible exact LeO.none _)
   | (with_reducible refine LeO.ite ?_ ?_)
   | (with_reducible refine LeO.bind ?_ (fun _ => ?_))
   | exact ih0 _ _ _
   | exact ih1 _ _ _ _ _ _ _ _ _
   | exact ih2 _ _ _ _ _ _ _ _ _ _
   | exact ih3 _ _ _ _ _ _ _ _ _ _ _
   | exact logbookref29_Parse.mono _ _
   | exact logbookref32_Entry.mono _ _ _ _ _ _ _ _
   | exact logbookref32_Item.mono _ _
   | exact logbookref32_item.mono _ _
   | exact logbookref32_till.mono _ _ _ _
   | exact LeO.none _
   | refine LeO.ite ?_ ?_
   | refine LeO.bind ?_ (fun _ => ?_)
  ·intro y0 y1 y2 y3 y4 y5 y6 y7 y8 y9
   unfold logbookref32_Read.l0
   repeat' first
   | (with_reducible exact ih0 _ _ _)
   | (with_reducible exact ih1 _ _ _ _ _ _ _ _ _)
   | (with_reducible exact ih2 _ _ _ _ _ _ _ _ _ _)
   | (with_reducible exact ih3 _ _ _ _ _ _ _ _ _ _ _)
   | (with_reducible exact logbookref29_Parse.mono _ _)
   | (with_reducible exact logbookref32_Entry.mono _ _ _ _ _ _ _ _)
   | (with_reducible exact logbookref32_Item.mono _ _)
   | (with_reducible exact logbookref32_item.mono _ _)
   | (with_reducible exact logbookref32_till.mono _ _ _ _)
   | (with_reducible exact LeO.refl _)
   | (with_reducible exact LeO.none _)
   | (with_reducible refine LeO.ite ?_ ?_)
   | (with_reducible refine LeO.bind ?_ (fun _ => ?_))
   | exact ih0 _ _ _
   | exact ih1 _ _ _ _ _ _ _ _ _
   | exact ih2 _ _ _ _ _ _ _ _ _ _
   | exact ih3 _ _ _ _ _ _ _ _ _ _ _
   | exact logbookref29_Parse.mono _ _
   | exact logbookref32_Entry.mono _ _ _ _ _ _ _ _
   | exact logbookref32_Item.mono _ _
   | exact logbookref32_item.mono _ _
   | exact logbookref32_till.mono _ _ _ _
   | exact LeO.none _
   | refine LeO.ite ?_ ?_
   | refine LeO.bind ?_ (fun _ => ?_)
  ·intro y0 y1 y2 y3 y4 y5 y6 y7 y8 y9 y10
   unfold logbookref32_Read.j3
   repeat' first
   | (with_reducible exact ih0 _ _ _)
   | (with_reducible exact ih1 _ _ _ _ _ _ _ _ _)
   | (with_reducible exact ih2 _ _ _ _ _ _ _ _ _ _)
   | (with_reducible exact ih3 _ _ _ _ _ _ _ _ _ _ _)
   | (with_reducible exact logbookref29_Parse.mono _ _)
   | (with_reducible exact logbookref32_Entry.mono _ _ _ _ _ _ _ _)
   | (with_reducible exact logbookref32_Item.mono _ _)
   | (with_reducible exact logbookref32_item.mono _ _)
   | (with_reducible exact logbookref32_till.mono _ _ _ _)
   | (with_reducible exact LeO.refl _)
   | (with_reducible exact LeO.none _)
   | (with_reducible refine LeO.ite ?_ ?_)
   | (with_reducible refine LeO.bind ?_ (fun _ => ?_))
   | exact ih0 _ _ _
   | exact ih1 _ _ _ _ _ _ _ _ _
   | exact ih2 _ _ _ _ _ _ _ _ _ _
   | exact ih3 _ _ _ _ _ _ _ _ _ _ _
   | exact logbookref29_Parse.mono _ _
   | exact logbookref32_Entry.mono _ _ _ _ _ _ _ _
   | exact logbookref32_Item.mono _ _
   | exact logbookref32_item.mono _ _
   | exact logbookref32_till.mono _ _ _ _
   | exact LeO.none _
   | refine LeO.ite ?_ ?_
   | refine LeO.bind ?_ (fun _ => ?_)
theorem logbookref32_Read.mono : ∀ a0 k, LeO (logbookref32_Read.f k a0) (logbookref32_Read.f (k + 1) a0) := by
 intro a0 k
 obtain ⟨ih0, ih1, ih2, ih3⟩ := logbookref32_Read.mono_l k
 unfold logbookref32_Read.f
 repeat' first
   | (with_reducible exact ih0 _ _ _)
   | (with_reducible exact ih1 _ _ _ _ _ _ _ _ _)
   | (with_reducible exact ih2 _ _ _ _ _ _ _ _ _ _)
   | (with_reducible exact ih3 _ _ _ _ _ _ _ _ _ _ _)
   | (with_reducible exact logbookref29_Parse.mono _ _)
   | (with_reducible exact logbookref32_Entry.mono _ _ _ _ _ _ _ _)
   | (with_reducible exact logbookref32_Item.mono _ _)
   | (with_reducible exact logbookref32_item.mono _ _)
   | (with_reducible exact logbookref32_till.mono _ _ _ _)
   | (with_reducible exact LeO.refl _)
   | (with_reducible exact LeO.none _)
   | (with_reducible refine LeO.ite ?_ ?_)
   | (with_reducible refine LeO.bind ?_ (fun _ => ?_))
   | exact ih0 _ _ _
   | exact ih1 _ _ _ _ _ _ _ _ _
   | exact ih2 _ _ _ _ _ _ _ _ _ _
   | exact ih3 _ _ _ _ _ _ _ _ _ _ _
   | exact logbookref29_Parse.mono _ _
   | exact logbookref32_Entry.mono _ _ _ _ _ _ _ _
   | exact logbookref32_Item.mono _ _
   | exact logbookref32_item.mono _ _
   | exact logbookref32_till.mono _ _ _ _
   | exact LeO.none _
   | refine LeO.ite ?_ ?_
   | refine LeO.bind ?_ (fun _ => ?_)
set_option maxHeartbeats 8000000 in
set_option maxRecDepth 100000 in
theorem logbookref32_Read.calls (k : Nat) (a0 : ByteArray) (r1 : Int) (r2 : Int) (r3 : Int) (r4 : Int) (r5 : Int) (r6 : Int) (r7 : List ByteArray) (r8 : Int) (r9 : Bool) (w : World) (h : logbookref32_Read.f k a0 = some (r1, r2, r3, r4, r5, r6, r7, r8, r9)) :
  Calls Tryd.prog 14 #[.string a0] w fun e w' => ∃ v6_ : Value, e = .returned (.tuple #[.agg #[.int .u64 r1, .int .u64 r2, .int .u64 r3, .int .u64 r4, .int .u64 r5, .int .u64 r6], v6_, .int .i64 r8, .bool r9]) ∧ Kd.R Kd.string 9 w' w.heap.size (fun _ => True) v6_ r7 ∧ Below w.heap.size w w' := by
 have hu23 := Tryd.underlying23
 have HB := Aside0.mk (Below.refl w.heap.size w)
 have H : ((logbookref32_till.f k a0 0 10).bind fun t200 => (if t200 < 9 then (logbookref32_Read.j0 k a0 t200 true) else (if 0 ≤ 9 then (if 9 ≤ (a0.size : Int) then (logbookref32_Read.j0 k a0 t200 ((a0.extract 0 9).toList != ([95, 95, 67, 85, 82, 83, 79, 82, 61] : List UInt8))) else (none)) else (none)))) = some (r1, r2, r3, r4, r5, r6, r7, r8, r9) := h
 clear h
 replace H := Option.bind_eq_some_iff.mp H
 obtain ⟨t200, A20, H⟩ := H
 replace H : (if t200 < 9 then (logbookref32_Read.j0 k a0 t200 true) else (if 0 ≤ 9 then (if 9 ≤ (a0.size : Int) then (logbookref32_Read.j0 k a0 t200 ((a0.extract 0 9).toList != ([95, 95, 67, 85, 82, 83, 79, 82, 61] : List UInt8))) else (none)) else (none))) = some (r1, r2, r3, r4, r5, r6, r7, r8, r9) := H
 have A2 := Aside0.mk A20
 clear A20
 have HC3 := Aside0.mk H
 clear H
 go_enter Tryd.func14, Tryd.ntmps14
 go_upto_region 2 with (first | ((with_reducible refine gate_dst (N := 2) rfl ?_); (try (refine gate_guard (by rfl) ?_; dsimp only)); refine box_event ?hg (N := 2) ?hd (cs := #[.int .u64 0, .int .u64 0, .int .u64 0, .int .u64 0, .int .u64 0, .int .u64 0]) (t := 23) ?hr ?_; (case hd => rfl); (case hg => rfl); (case hr => first | (go_simp; done) | (go_simp; rfl)); intro gb199 hg w4 hbox hb; have n0_ := Aside0.mk (below_step (by repeat (first | (with_reducible first | exact HB.out | apply below_alloc | apply pw_below_drewN | apply below_drew1) | exact HB.out)) hb); have n1_ := Aside0.mk (hbox); have n2_ := Aside0.mk ((by rw [hg]; exact (below_size (by repeat (first | (with_reducible first | exact HB.out | apply below_alloc | apply pw_below_drewN | apply below_drew1) | exact HB.out))) : w.heap.size ≤ gb199)); have n3_ := Aside0.mk ((by rw [hg]; exact (below_size (by repeat (first | (with_reducible first | exact HB.out | apply below_alloc | apply pw_below_drewN | apply below_drew1) | exact HB.out))) : w.heap.size ≤ gb199)); clear HB; have HB := n0_; have BK199 := n1_; have GW199 := n2_; have GE199 := n3_; clear n0_ n1_ n2_ n3_; clear hb hbox hg) | (go_at_call 38; (with_reducible refine (logbookref32_till.calls k a0 0 10 t200 _ A2.out).mono ?_); rintro e w' ⟨rfl, ⟨nd, rfl⟩⟩; (try first | exact ⟨rfl, _, World.drewN_drewN _ _ _⟩ | exact ⟨rfl, _, Eq.trans (World.drewN_drewN _ _ _) (congrArg (World.drewN _) (Nat.add_assoc _ _ _))⟩)))
 repeat (go_quiet (first | ((with_reducible refine gate_dst (N := 2) rfl ?_); (try (refine gate_guard (by rfl) ?_; dsimp only)); refine box_event ?hg (N := 2) ?hd (cs := #[.int .u64 0, .int .u64 0, .int .u64 0, .int .u64 0, .int .u64 0, .int .u64 0]) (t := 23) ?hr ?_; (case hd => rfl); (case hg => rfl); (case hr => first | (go_simp; done) | (go_simp; rfl)); intro gb199 hg w4 hbox hb; have n0_ := Aside0.mk (below_step (by repeat (first | (with_reducible first | exact HB.out | apply below_alloc | apply pw_below_drewN | apply below_drew1) | exact HB.out)) hb); have n1_ := Aside0.mk (hbox); have n2_ := Aside0.mk ((by rw [hg]; exact (below_size (by repeat (first | (with_reducible first | exact HB.out | apply below_alloc | apply pw_below_drewN | apply below_drew1) | exact HB.out))) : w.heap.size ≤ gb199)); have n3_ := Aside0.mk ((by rw [hg]; exact (below_size (by repeat (first | (with_reducible first | exact HB.out | apply below_alloc | apply pw_below_drewN | apply below_drew1) | exact HB.out))) : w.heap.size ≤ gb199)); clear HB; have HB := n0_; have BK199 := n1_; have GW199 := n2_; have GE199 := n3_; clear n0_ n1_ n2_ n3_; clear hb hbox hg) | (go_at_call 38; (with_reducible refine (logbookref32_till.calls k a0 0 10 t200 _ A2.out).mono ?_); rintro e w' ⟨rfl, ⟨nd, rfl⟩⟩; (try first | exact ⟨rfl, _, World.drewN_drewN _ _ _⟩ | exact ⟨rfl, _, Eq.trans (World.drewN_drewN _ _ _) (congrArg (World.drewN _) (Nat.add_assoc _ _ _))⟩))); go_upto_region 2 with (first | ((with_reducible refine gate_dst (N := 2) rfl ?_); (try (refine gate_guard (by rfl) ?_; dsimp only)); refine box_event ?hg (N := 2) ?hd (cs := #[.int .u64 0, .int .u64 0, .int .u64 0, .int .u64 0, .int .u64 0, .int .u64 0]) (t := 23) ?hr ?_; (case hd => rfl); (case hg => rfl); (case hr => first | (go_simp; done) | (go_simp; rfl)); intro gb199 hg w4 hbox hb; have n0_ := Aside0.mk (below_step (by repeat (first | (with_reducible first | exact HB.out | apply below_alloc | apply pw_below_drewN | apply below_drew1) | exact HB.out)) hb); have n1_ := Aside0.mk (hbox); have n2_ := Aside0.mk ((by rw [hg]; exact (below_size (by repeat (first | (with_reducible first | exact HB.out | apply below_alloc | apply pw_below_drewN | apply below_drew1) | exact HB.out))) : w.heap.size ≤ gb199)); have n3_ := Aside0.mk ((by rw [hg]; exact (below_size (by repeat (first | (with_reducible first | exact HB.out | apply below_alloc | apply pw_below_drewN | apply below_drew1) | exact HB.out))) : w.heap.size ≤ gb199)); clear HB; have HB := n0_; have BK199 := n1_; have GW199 := n2_; have GE199 := n3_; clear n0_ n1_ n2_ n3_; clear hb hbox hg) | (go_at_call 38; (with_reducible refine (logbookref32_till.calls k a0 0 10 t200 _ A2.out).mono ?_); rintro e w' ⟨rfl, ⟨nd, rfl⟩⟩; (try first | exact ⟨rfl, _, World.drewN_drewN _ _ _⟩ | exact ⟨rfl, _, Eq.trans (World.drewN_drewN _ _ _) (congrArg (World.drewN _) (Nat.add_assoc _ _ _))⟩))))
 (try simp only [Act.put, List.setIfInBounds_toArray, List.set_cons_zero, List.set_cons_succ])
 go_cut [23] (fun v23 wc => ∃ (kq : Nat) (x23_2 : Bool), v23 = .bool x23_2 ∧ Aside0 (logbookref32_Read.j0 kq a0 t200 x23_2 = some (r1, r2, r3, r4, r5, r6, r7, r8, r9)) ∧ Aside0 (kq ≤ k) ∧ Aside0 (wc.heap[gb199]? = some (.cells #[.int .u64 0, .int .u64 0, .int .u64 0, .int .u64 0, .int .u64 0, .int .u64 0] 23 (0, 0))) ∧ Aside0 (Below w.heap.size w wc))
 case first =>
  have H := HC3.out
  clear HC3
  by_cases c5 : t200 < 9
  ·rw [if_pos c5] at H
   have c5b0 : decide (t200 < 9) = true := decide_eq_true c5
   clear c5
   (first | rw [c5b0] | (simp only [i64_w, i32_w]; rw [c5b0]) | skip)
   have H' := Aside0.mk H
   clear H
   go_wp2
   repeat (go_quiet (fail); try go_wp2)
   go_meet
   case rel => exact ⟨_, (true), (by first | rfl | (simp; done) | (simp [*]; done) | exact isEmpty_bne _), H', ⟨by first | omega | exact Nat.le_refl _⟩, ⟨by (with_reducible repeat (first | refine blk_drewN ?_ _ | refine blk_drew ?_ | refine blk_alloc ?_ _)); exact BK199.out⟩, ⟨by repeat (first | (with_reducible first | exact HB.out | apply below_alloc | apply pw_below_drewN | apply below_drew1 | refine below_set ?_ GE199.out) | exact HB.out)⟩⟩
  ·rw [if_neg c5] at H
   have c5b0 : decide (t200 < 9) = false := decide_eq_false c5
   clear c5
   (first | rw [c5b0] | (simp only [i64_w, i32_w]; rw [c5b0]) | skip)
   by_cases c6 : 0 ≤ 9
   ·rw [if_pos c6] at H
    have c6b0 := eq_true c6
    have c6b1 : decide (0 ≤ 9) = true := decide_eq_true c6
    clear c6
    by_cases c7 : 9 ≤ (a0.size : Int)
    ·rw [if_pos c7] at H
     have c7b0 := eq_true c7
     have c7b1 : decide (9 ≤ (a0.size : Int)) = true := decide_eq_true c7
     clear c7
     have H' := Aside0.mk H
     clear H
     go_wp2
     repeat (go_quiet (fail); try go_wp2)
     go_meet
     case rel => exact ⟨_, (((a0.extract 0 9).toList != ([95, 95, 67, 85, 82, 83, 79, 82, 61] : List UInt8))), (by first | rfl | (simp; done) | (simp [*]; done) | exact isEmpty_bne _), H', ⟨by first | omega | exact Nat.le_refl _⟩, ⟨by (with_reducible repeat (first | refine blk_drewN ?_ _ | refine blk_drew ?_ | refine blk_alloc ?_ _)); exact BK199.out⟩, ⟨by repeat (first | (with_reducible first | exact HB.out | apply below_alloc | apply pw_below_drewN | apply below_drew1 | refine below_set ?_ GE199.out) | exact HB.out)⟩⟩
    ·rw [if_neg c7] at H
     exact absurd H (by simp)
   ·rw [if_neg c6] at H
    exact absurd H (by simp)
 case rest =>
  clear HC3
  try clear c1
  try clear p2
  try clear c5
  try clear c5b0
  try clear c6
  try clear c6b0
  try clear c6b1
  try clear c7
  try clear c7b0
  try clear c7b1
  obtain ⟨kq, x23_2, rfl, HA, HJ2, BK199, HB⟩ := hcut
  cases kq with
  | zero => exact absurd HA.out (by simp [logbookref32_Read.j0])
  | succ kj2 =>
   have H := HA.out
   clear HA
   simp only [logbookref32_Read.j0] at H
   by_cases c8 : x23_2 = true
   ·subst c8
    have H1 : (some (0, 0, 0, 0, 0, 0, ([] : List ByteArray), 0, false)) = some (r1, r2, r3, r4, r5, r6, r7, r8, r9) := by rw [if_pos rfl] at H; exact H
    clear H
    have H := H1
    clear H1
    simp only [Option.some.injEq, Prod.mk.injEq] at H
    obtain ⟨rfl, rfl, rfl, rfl, rfl, rfl, rfl, rfl, rfl⟩ := H
    have hcz9_0 : wc.cell? ⟨gb199, 0, none⟩ = some (.int .u64 0) := (blk_cell BK199.out 0).trans rfl
    have hcz9_1 : wc.cell? ⟨gb199, 1, none⟩ = some (.int .u64 0) := (blk_cell BK199.out 1).trans rfl
    have hcz9_2 : wc.cell? ⟨gb199, 2, none⟩ = some (.int .u64 0) := (blk_cell BK199.out 2).trans rfl
    have hcz9_3 : wc.cell? ⟨gb199, 3, none⟩ = some (.int .u64 0) := (blk_cell BK199.out 3).trans rfl
    have hcz9_4 : wc.cell? ⟨gb199, 4, none⟩ = some (.int .u64 0) := (blk_cell BK199.out 4).trans rfl
    have hcz9_5 : wc.cell? ⟨gb199, 5, none⟩ = some (.int .u64 0) := (blk_cell BK199.out 5).trans rfl
    have hfz9_0 := blk_frozen BK199.out 0
    have hfz9_1 := blk_frozen BK199.out 1
    have hfz9_2 := blk_frozen BK199.out 2
    have hfz9_3 := blk_frozen BK199.out 3
    have hfz9_4 := blk_frozen BK199.out 4
    have hfz9_5 := blk_frozen BK199.out 5
    go_wp2
    repeat (go_quiet (fail); try go_wp2)
    refine bodyPost_ret (results_list (rs := [.cell 2 23, .tmp 3, .tmp 4, .tmp 5]) rfl (by simp) (.cell gb199 23 #[.int .u64 0, .int .u64 0, .int .u64 0, .int .u64 0, .int .u64 0, .int .u64 0] (0, 0) _ rfl (by (with_reducible repeat (first | refine blk_drewN ?_ _ | refine blk_drew ?_ | refine blk_alloc ?_ _)); refine blk_put (cs := #[.int .u64 0, .int .u64 0, .int .u64 0, .int .u64 0, .int .u64 0, .int .u64 0]) ?_ 5 _ rfl; (with_reducible repeat (first | refine blk_drewN ?_ _ | refine blk_drew ?_ | refine blk_alloc ?_ _)); refine blk_put (cs := #[.int .u64 0, .int .u64 0, .int .u64 0, .int .u64 0, .int .u64 0, .int .u64 0]) ?_ 4 _ rfl; (with_reducible repeat (first | refine blk_drewN ?_ _ | refine blk_drew ?_ | refine blk_alloc ?_ _)); refine blk_put (cs := #[.int .u64 0, .int .u64 0, .int .u64 0, .int .u64 0, .int .u64 0, .int .u64 0]) ?_ 3 _ rfl; (with_reducible repeat (first | refine blk_drewN ?_ _ | refine blk_drew ?_ | refine blk_alloc ?_ _)); refine blk_put (cs := #[.int .u64 0, .int .u64 0, .int .u64 0, .int .u64 0, .int .u64 0, .int .u64 0]) ?_ 2 _ rfl; (with_reducible repeat (first | refine blk_drewN ?_ _ | refine blk_drew ?_ | refine blk_alloc ?_ _)); refine blk_put (cs := #[.int .u64 0, .int .u64 0, .int .u64 0, .int .u64 0, .int .u64 0, .int .u64 0]) ?_ 1 _ rfl; (with_reducible repeat (first | refine blk_drewN ?_ _ | refine blk_drew ?_ | refine blk_alloc ?_ _)); refine blk_put (cs := #[.int .u64 0, .int .u64 0, .int .u64 0, .int .u64 0, .int .u64 0, .int .u64 0]) ?_ 0 _ rfl; (with_reducible repeat (first | refine blk_drewN ?_ _ | refine blk_drew ?_ | refine blk_alloc ?_ _)); exact BK199.out) Tryd.underlying23 rfl (by kernel_rfl) (.tmp (.tmp (.tmp .nil))))) rfl ?_
    exact ⟨_, by first | rfl | (simp [errW_none, errW_some] <;> rfl) | (simp [*, errW_none, errW_some] <;> rfl), by first | exact Kd.R_nil _ _ _ _ _ | exact Kd.N_nil _ _ _ _ _ | exact Kd.V_nil _ _ _ _ _ | exact Kd.Q_nil _ _ _ _ _ | exact Kd.S_nil _ _ _ _ _, by repeat (first | (with_reducible first | exact HB.out | apply below_alloc | apply pw_below_drewN | apply below_drew1 | refine below_set ?_ GE199.out) | exact HB.out)⟩
   ·replace c8 := Bool.eq_false_iff.mpr c8
    subst c8
    have H1 : (if 9 ≤ t200 then (if t200 ≤ (a0.size : Int) then ((logbookref29_Parse.f kj2 (a0.extract 9 (t200 : Int).toNat)).bind fun bt201 => ((logbookref32_Entry.f kj2 bt201.1 bt201.2.1 bt201.2.2.1 bt201.2.2.2.1 bt201.2.2.2.2.1 bt201.2.2.2.2.2.1 ([] : List ByteArray)).bind fun t209 => (if bt201.2.2.2.2.2.2 = true then (if (a0.size : Int) < (wrap64 ((t209.size : Int) - 1)) then (logbookref32_Read.j1 kj2 a0 (wrap64 ((t209.size : Int) - 1)) true bt201.1 bt201.2.1 bt201.2.2.1 bt201.2.2.2.1 bt201.2.2.2.2.1 bt201.2.2.2.2.2.1) else (if 0 ≤ (wrap64 ((t209.size : Int) - 1)) then (if (wrap64 ((t209.size : Int) - 1)) ≤ (a0.size : Int) then (if (wrap64 ((t209.size : Int) - 1)) ≤ (t209.size : Int) then (logbookref32_Read.j1 kj2 a0 (wrap64 ((t209.size : Int) - 1)) ((a0.extract 0 ((wrap64 ((t209.size : Int) - 1)) : Int).toNat).toList != (t209.extract 0 ((wrap64 ((t209.size : Int) - 1)) : Int).toNat).toList) bt201.1 bt201.2.1 bt201.2.2.1 bt201.2.2.2.1 bt201.2.2.2.2.1 bt201.2.2.2.2.2.1) else (none)) else (none)) else (none))) else (logbookref32_Read.j1 kj2 a0 (wrap64 ((t209.size : Int) - 1)) true bt201.1 bt201.2.1 bt201.2.2.1 bt201.2.2.2.1 bt201.2.2.2.2.1 bt201.2.2.2.2.2.1)))) else (none)) else (none)) = some (r1, r2, r3, r4, r5, r6, r7, r8, r9) := by rw [if_neg (show ¬ (false = true) by decide)] at H; exact H
    clear H
    have H := H1
    clear H1
    by_cases c10 : 9 ≤ t200
    ·rw [if_pos c10] at H
     have c10b0 := eq_true c10
     have c10b1 : decide (9 ≤ t200) = true := decide_eq_true c10
     clear c10
     by_cases c11 : t200 ≤ (a0.size : Int)
     ·rw [if_pos c11] at H
      have c11b0 := eq_true c11
      have c11b1 : decide (t200 ≤ (a0.size : Int)) = true := decide_eq_true c11
      clear c11
      replace H := Option.bind_eq_some_iff.mp H
      obtain ⟨⟨t201, t202, t203, t204, t205, t206, t207⟩, A120, H⟩ := H
      replace H : ((logbookref32_Entry.f kj2 t201 t202 t203 t204 t205 t206 ([] : List ByteArray)).bind fun t209 => (if t207 = true then (if (a0.size : Int) < (wrap64 ((t209.size : Int) - 1)) then (logbookref32_Read.j1 kj2 a0 (wrap64 ((t209.size : Int) - 1)) true t201 t202 t203 t204 t205 t206) else (if 0 ≤ (wrap64 ((t209.size : Int) - 1)) then (if (wrap64 ((t209.size : Int) - 1)) ≤ (a0.size : Int) then (if (wrap64 ((t209.size : Int) - 1)) ≤ (t209.size : Int) then (logbookref32_Read.j1 kj2 a0 (wrap64 ((t209.size : Int) - 1)) ((a0.extract 0 ((wrap64 ((t209.size : Int) - 1)) : Int).toNat).toList != (t209.extract 0 ((wrap64 ((t209.size : Int) - 1)) : Int).toNat).toList) t201 t202 t203 t204 t205 t206) else (none)) else (none)) else (none))) else (logbookref32_Read.j1 kj2 a0 (wrap64 ((t209.size : Int) - 1)) true t201 t202 t203 t204 t205 t206))) = some (r1, r2, r3, r4, r5, r6, r7, r8, r9) := H
      have A12 := Aside0.mk A120
      clear A120
      replace H := Option.bind_eq_some_iff.mp H
      obtain ⟨t209, A130, H⟩ := H
      replace H : (if t207 = true then (if (a0.size : Int) < (wrap64 ((t209.size : Int) - 1)) then (logbookref32_Read.j1 kj2 a0 (wrap64 ((t209.size : Int) - 1)) true t201 t202 t203 t204 t205 t206) else (if 0 ≤ (wrap64 ((t209.size : Int) - 1)) then (if (wrap64 ((t209.size : Int) - 1)) ≤ (a0.size : Int) then (if (wrap64 ((t209.size : Int) - 1)) ≤ (t209.size : Int) then (logbookref32_Read.j1 kj2 a0 (wrap64 ((t209.size : Int) - 1)) ((a0.extract 0 ((wrap64 ((t209.size : Int) - 1)) : Int).toNat).toList != (t209.extract 0 ((wrap64 ((t209.size : Int) - 1)) : Int).toNat).toList) t201 t202 t203 t204 t205 t206) else (none)) else (none)) else (none))) else (logbookref32_Read.j1 kj2 a0 (wrap64 ((t209.size : Int) - 1)) true t201 t202 t203 t204 t205 t206)) = some (r1, r2, r3, r4, r5, r6, r7, r8, r9) := H
      have A13 := Aside0.mk A130
      clear A130
      have HC14 := Aside0.mk H
      clear H
      go_upto_region 7 with (first | (go_at_call 39; (with_reducible refine (logbookref29_Parse.calls kj2 (a0.extract 9 (t200 : Int).toNat) t201 t202 t203 t204 t205 t206 t207 _ A12.out).mono ?_); rintro e w15 ⟨rfl, hb⟩; have n0_ := Aside0.mk (blk_below (g := gb199) (o := .cells #[.int .u64 0, .int .u64 0, .int .u64 0, .int .u64 0, .int .u64 0, .int .u64 0] 23 (0, 0)) (by (with_reducible repeat (first | refine blk_drewN ?_ _ | refine blk_drew ?_ | refine blk_alloc ?_ _)); exact BK199.out) hb); have n1_ := Aside0.mk (below_step (by repeat (first | (with_reducible first | exact HB.out | apply below_alloc | apply pw_below_drewN | apply below_drew1 | refine below_set ?_ GE199.out) | exact HB.out)) hb); clear BK199; clear HB; have BK199 := n0_; have HB := n1_; clear n0_ n1_; (try clear hb); (try clear hb2); (try clear hk); (try clear hi)) | ((with_reducible refine gate_dst (N := 7) rfl ?_); (try (refine gate_guard (by rfl) ?_; dsimp only)); refine box_event ?hg (N := 7) ?hd (cs := #[.int .u64 0, .int .u64 0, .int .u64 0, .int .u64 0, .int .u64 0, .int .u64 0]) (t := 23) ?hr ?_; (case hd => rfl); (case hg => rfl); (case hr => first | (go_simp; done) | (go_simp; rfl)); intro gb208 hg w16 hbox hb; have n0_ := Aside0.mk (blk_below (g := gb199) (o := .cells #[.int .u64 0, .int .u64 0, .int .u64 0, .int .u64 0, .int .u64 0, .int .u64 0] 23 (0, 0)) (by (with_reducible repeat (first | refine blk_drewN ?_ _ | refine blk_drew ?_ | refine blk_alloc ?_ _)); exact BK199.out) hb); have n1_ := Aside0.mk (below_step (by repeat (first | (with_reducible first | exact HB.out | apply below_alloc | apply pw_below_drewN | apply below_drew1 | refine below_set ?_ GE199.out) | exact HB.out)) hb); have n2_ := Aside0.mk (hbox); have n3_ := Aside0.mk ((by rw [hg]; exact (below_size (by repeat (first | (with_reducible first | exact HB.out | apply below_alloc | apply pw_below_drewN | apply below_drew1 | refine below_set ?_ GE199.out) | exact HB.out))) : w.heap.size ≤ gb208)); have n4_ := Aside0.mk ((by rw [hg]; exact (below_size (by repeat (first | (with_reducible first | exact HB.out | apply below_alloc | apply pw_below_drewN | apply below_drew1 | refine below_set ?_ GE199.out) | exact HB.out))) : w.heap.size ≤ gb208)); have n5_ := Aside0.mk ((by rw [hg]; exact Nat.ne_of_lt (blk_lt (g := gb199) (o := .cells #[.int .u64 0, .int .u64 0, .int .u64 0, .int .u64 0, .int .u64 0, .int .u64 0] 23 (0, 0)) (by (with_reducible repeat (first | refine blk_drewN ?_ _ | refine blk_drew ?_ | refine blk_alloc ?_ _)); exact BK199.out)) : gb199 ≠ gb208)); have n6_ := Aside0.mk ((by rw [hg]; exact Nat.ne_of_gt (blk_lt (g := gb199) (o := .cells #[.int .u64 0, .int .u64 0, .int .u64 0, .int .u64 0, .int .u64 0, .int .u64 0] 23 (0, 0)) (by (with_reducible repeat (first | refine blk_drewN ?_ _ | refine blk_drew ?_ | refine blk_alloc ?_ _)); exact BK199.out)) : gb208 ≠ gb199)); clear BK199; clear HB; have BK199 := n0_; have HB := n1_; have BK208 := n2_; have GW208 := n3_; have GE208 := n4_; have NB199_208 := n5_; have NB208_199 := n6_; clear n0_ n1_ n2_ n3_ n4_ n5_ n6_; clear hb hbox hg; have hnb17 := NB208_199.out; have hnc17 := NB199_208.out; have hcz18_0 : w16.cell? ⟨gb208, 0, none⟩ = some (.int .u64 0) := (blk_cell BK208.out 0).trans rfl; have hcz18_1 : w16.cell? ⟨gb208, 1, none⟩ = some (.int .u64 0) := (blk_cell BK208.out 1).trans rfl; have hcz18_2 : w16.cell? ⟨gb208, 2, none⟩ = some (.int .u64 0) := (blk_cell BK208.out 2).trans rfl; have hcz18_3 : w16.cell? ⟨gb208, 3, none⟩ = some (.int .u64 0) := (blk_cell BK208.out 3).trans rfl; have hcz18_4 : w16.cell? ⟨gb208, 4, none⟩ = some (.int .u64 0) := (blk_cell BK208.out 4).trans rfl; have hcz18_5 : w16.cell? ⟨gb208, 5, none⟩ = some (.int .u64 0) := (blk_cell BK208.out 5).trans rfl; have hfz18_0 := blk_frozen BK208.out 0; have hfz18_1 := blk_frozen BK208.out 1; have hfz18_2 := blk_frozen BK208.out 2; have hfz18_3 := blk_frozen BK208.out 3; have hfz18_4 := blk_frozen BK208.out 4; have hfz18_5 := blk_frozen BK208.out 5) | (go_at_call 12; (refine (logbookref32_Entry.calls kj2 t201 t202 t203 t204 t205 t206 _ _ ([] : List ByteArray) t209 _ ?side1 ?side2 A13.out).mono ?_); (case side1 => exact Kd.C_nil _ _); (case side2 => exact Nat.le_refl _); rintro e w19 ⟨rfl, hb⟩; have n0_ := Aside0.mk (blk_below (g := gb199) (o := .cells #[.int .u64 0, .int .u64 0, .int .u64 0, .int .u64 0, .int .u64 0, .int .u64 0] 23 (0, 0)) (by (with_reducible repeat (first | refine blk_drewN ?_ _ | refine blk_drew ?_ | refine blk_alloc ?_ _)); refine blk_far ?_ NB199_208.out _; (with_reducible repeat (first | refine blk_drewN ?_ _ | refine blk_drew ?_ | refine blk_alloc ?_ _)); refine blk_far ?_ NB199_208.out _; (with_reducible repeat (first | refine blk_drewN ?_ _ | refine blk_drew ?_ | refine blk_alloc ?_ _)); refine blk_far ?_ NB199_208.out _; (with_reducible repeat (first | refine blk_drewN ?_ _ | refine blk_drew ?_ | refine blk_alloc ?_ _)); refine blk_far ?_ NB199_208.out _; (with_reducible repeat (first | refine blk_drewN ?_ _ | refine blk_drew ?_ | refine blk_alloc ?_ _)); refine blk_far ?_ NB199_208.out _; (with_reducible repeat (first | refine blk_drewN ?_ _ | refine blk_drew ?_ | refine blk_alloc ?_ _)); refine blk_far ?_ NB199_208.out _; (with_reducible repeat (first | refine blk_drewN ?_ _ | refine blk_drew ?_ | refine blk_alloc ?_ _)); exact BK199.out) hb); have n1_ := Aside0.mk (blk_below (g := gb208) (o := .cells #[.int .u64 t201, .int .u64 t202, .int .u64 t203, .int .u64 t204, .int .u64 t205, .int .u64 t206] 23 (0, 0)) (by (with_reducible repeat (first | refine blk_drewN ?_ _ | refine blk_drew ?_ | refine blk_alloc ?_ _)); refine blk_put (cs := #[.int .u64 t201, .int .u64 t202, .int .u64 t203, .int .u64 t204, .int .u64 t205, .int .u64 0]) ?_ 5 _ rfl; (with_reducible repeat (first | refine blk_drewN ?_ _ | refine blk_drew ?_ | refine blk_alloc ?_ _)); refine blk_put (cs := #[.int .u64 t201, .int .u64 t202, .int .u64 t203, .int .u64 t204, .int .u64 0, .int .u64 0]) ?_ 4 _ rfl; (with_reducible repeat (first | refine blk_drewN ?_ _ | refine blk_drew ?_ | refine blk_alloc ?_ _)); refine blk_put (cs := #[.int .u64 t201, .int .u64 t202, .int .u64 t203, .int .u64 0, .int .u64 0, .int .u64 0]) ?_ 3 _ rfl; (with_reducible repeat (first | refine blk_drewN ?_ _ | refine blk_drew ?_ | refine blk_alloc ?_ _)); refine blk_put (cs := #[.int .u64 t201, .int .u64 t202, .int .u64 0, .int .u64 0, .int .u64 0, .int .u64 0]) ?_ 2 _ rfl; (with_reducible repeat (first | refine blk_drewN ?_ _ | refine blk_drew ?_ | refine blk_alloc ?_ _)); refine blk_put (cs := #[.int .u64 t201, .int .u64 0, .int .u64 0, .int .u64 0, .int .u64 0, .int .u64 0]) ?_ 1 _ rfl; (with_reducible repeat (first | refine blk_drewN ?_ _ | refine blk_drew ?_ | refine blk_alloc ?_ _)); refine blk_put (cs := #[.int .u64 0, .int .u64 0, .int .u64 0, .int .u64 0, .int .u64 0, .int .u64 0]) ?_ 0 _ rfl; (with_reducible repeat (first | refine blk_drewN ?_ _ | refine blk_drew ?_ | refine blk_alloc ?_ _)); exact BK208.out) hb); have n2_ := Aside0.mk (below_step (by repeat (first | (with_reducible first | exact HB.out | apply below_alloc | apply pw_below_drewN | apply below_drew1 | refine below_set ?_ GE199.out | refine below_set ?_ GE208.out) | exact HB.out)) hb); clear BK199; clear BK208; clear HB; have BK199 := n0_; have BK208 := n1_; have HB := n2_; clear n0_ n1_ n2_; (try clear hb); (try clear hb2); (try clear hk); (try clear hi)))
      repeat (go_quiet (first | (go_at_call 39; (with_reducible refine (logbookref29_Parse.calls kj2 (a0.extract 9 (t200 : Int).toNat) t201 t202 t203 t204 t205 t206 t207 _ A12.out).mono ?_); rintro e w15 ⟨rfl, hb⟩; have n0_ := Aside0.mk (blk_below (g := gb199) (o := .cells #[.int .u64 0, .int .u64 0, .int .u64 0, .int .u64 0, .int .u64 0, .int .u64 0] 23 (0, 0)) (by (with_reducible repeat (first | refine blk_drewN ?_ _ | refine blk_drew ?_ | refine blk_alloc ?_ _)); exact BK199.out) hb); have n1_ := Aside0.mk (below_step (by repeat (first | (with_reducible first | exact HB.out | apply below_alloc | apply pw_below_drewN | apply below_drew1 | refine below_set ?_ GE199.out) | exact HB.out)) hb); clear BK199; clear HB; have BK199 := n0_; have HB := n1_; clear n0_ n1_; (try clear hb); (try clear hb2); (try clear hk); (try clear hi)) | ((with_reducible refine gate_dst (N := 7) rfl ?_); (try (refine gate_guard (by rfl) ?_; dsimp only)); refine box_event ?hg (N := 7) ?hd (cs := #[.int .u64 0, .int .u64 0, .int .u64 0, .int .u64 0, .int .u64 0, .int .u64 0]) (t := 23) ?hr ?_; (case hd => rfl); (case hg => rfl); (case hr => first | (go_simp; done) | (go_simp; rfl)); intro gb208 hg w16 hbox hb; have n0_ := Aside0.mk (blk_below (g := gb199) (o := .cells #[.int .u64 0, .int .u64 0, .int .u64 0, .int .u64 0, .int .u64 0, .int .u64 0] 23 (0, 0)) (by (with_reducible repeat (first | refine blk_drewN ?_ _ | refine blk_drew ?_ | refine blk_alloc ?_ _)); exact BK199.out) hb); have n1_ := Aside0.mk (below_step (by repeat (first | (with_reducible first | exact HB.out | apply below_alloc | apply pw_below_drewN | apply below_drew1 | refine below_set ?_ GE199.out) | exact HB.out)) hb); have n2_ := Aside0.mk (hbox); have n3_ := Aside0.mk ((by rw [hg]; exact (below_size (by repeat (first | (with_reducible first | exact HB.out | apply below_alloc | apply pw_below_drewN | apply below_drew1 | refine below_set ?_ GE199.out) | exact HB.out))) : w.heap.size ≤ gb208)); have n4_ := Aside0.mk ((by rw [hg]; exact (below_size (by repeat (first | (with_reducible first | exact HB.out | apply below_alloc | apply pw_below_drewN | apply below_drew1 | refine below_set ?_ GE199.out) | exact HB.out))) : w.heap.size ≤ gb208)); have n5_ := Aside0.mk ((by rw [hg]; exact Nat.ne_of_lt (blk_lt (g := gb199) (o := .cells #[.int .u64 0, .int .u64 0, .int .u64 0, .int .u64 0, .int .u64 0, .int .u64 0] 23 (0, 0)) (by (with_reducible repeat (first | refine blk_drewN ?_ _ | refine blk_drew ?_ | refine blk_alloc ?_ _)); exact BK199.out)) : gb199 ≠ gb208)); have n6_ := Aside0.mk ((by rw [hg]; exact Nat.ne_of_gt (blk_lt (g := gb199) (o := .cells #[.int .u64 0, .int .u64 0, .int .u64 0, .int .u64 0, .int .u64 0, .int .u64 0] 23 (0, 0)) (by (with_reducible repeat (first | refine blk_drewN ?_ _ | refine blk_drew ?_ | refine blk_alloc ?_ _)); exact BK199.out)) : gb208 ≠ gb199)); clear BK199; clear HB; have BK199 := n0_; have HB := n1_; have BK208 := n2_; have GW208 := n3_; have GE208 := n4_; have NB199_208 := n5_; have NB208_199 := n6_; clear n0_ n1_ n2_ n3_ n4_ n5_ n6_; clear hb hbox hg; have hnb17 := NB208_199.out; have hnc17 := NB199_208.out; have hcz18_0 : w16.cell? ⟨gb208, 0, none⟩ = some (.int .u64 0) := (blk_cell BK208.out 0).trans rfl; have hcz18_1 : w16.cell? ⟨gb208, 1, none⟩ = some (.int .u64 0) := (blk_cell BK208.out 1).trans rfl; have hcz18_2 : w16.cell? ⟨gb208, 2, none⟩ = some (.int .u64 0) := (blk_cell BK208.out 2).trans rfl; have hcz18_3 : w16.cell? ⟨gb208, 3, none⟩ = some (.int .u64 0) := (blk_cell BK208.out 3).trans rfl; have hcz18_4 : w16.cell? ⟨gb208, 4, none⟩ = some (.int .u64 0) := (blk_cell BK208.out 4).trans rfl; have hcz18_5 : w16.cell? ⟨gb208, 5, none⟩ = some (.int .u64 0) := (blk_cell BK208.out 5).trans rfl; have hfz18_0 := blk_frozen BK208.out 0; have hfz18_1 := blk_frozen BK208.out 1; have hfz18_2 := blk_frozen BK208.out 2; have hfz18_3 := blk_frozen BK208.out 3; have hfz18_4 := blk_frozen BK208.out 4; have hfz18_5 := blk_frozen BK208.out 5) | (go_at_call 12; (refine (logbookref32_Entry.calls kj2 t201 t202 t203 t204 t205 t206 _ _ ([] : List ByteArray) t209 _ ?side1 ?side2 A13.out).mono ?_); (case side1 => exact Kd.C_nil _ _); (case side2 => exact Nat.le_refl _); rintro e w19 ⟨rfl, hb⟩; have n0_ := Aside0.mk (blk_below (g := gb199) (o := .cells #[.int .u64 0, .int .u64 0, .int .u64 0, .int .u64 0, .int .u64 0, .int .u64 0] 23 (0, 0)) (by (with_reducible repeat (first | refine blk_drewN ?_ _ | refine blk_drew ?_ | refine blk_alloc ?_ _)); refine blk_far ?_ NB199_208.out _; (with_reducible repeat (first | refine blk_drewN ?_ _ | refine blk_drew ?_ | refine blk_alloc ?_ _)); refine blk_far ?_ NB199_208.out _; (with_reducible repeat (first | refine blk_drewN ?_ _ | refine blk_drew ?_ | refine blk_alloc ?_ _)); refine blk_far ?_ NB199_208.out _; (with_reducible repeat (first | refine blk_drewN ?_ _ | refine blk_drew ?_ | refine blk_alloc ?_ _)); refine blk_far ?_ NB199_208.out _; (with_reducible repeat (first | refine blk_drewN ?_ _ | refine blk_drew ?_ | refine blk_alloc ?_ _)); refine blk_far ?_ NB199_208.out _; (with_reducible repeat (first | refine blk_drewN ?_ _ | refine blk_drew ?_ | refine blk_alloc ?_ _)); refine blk_far ?_ NB199_208.out _; (with_reducible repeat (first | refine blk_drewN ?_ _ | refine blk_drew ?_ | refine blk_alloc ?_ _)); exact BK199.out) hb); have n1_ := Aside0.mk (blk_below (g := gb208) (o := .cells #[.int .u64 t201, .int .u64 t202, .int .u64 t203, .int .u64 t204, .int .u64 t205, .int .u64 t206] 23 (0, 0)) (by (with_reducible repeat (first | refine blk_drewN ?_ _ | refine blk_drew ?_ | refine blk_alloc ?_ _)); refine blk_put (cs := #[.int .u64 t201, .int .u64 t202, .int .u64 t203, .int .u64 t204, .int .u64 t205, .int .u64 0]) ?_ 5 _ rfl; (with_reducible repeat (first | refine blk_drewN ?_ _ | refine blk_drew ?_ | refine blk_alloc ?_ _)); refine blk_put (cs := #[.int .u64 t201, .int .u64 t202, .int .u64 t203, .int .u64 t204, .int .u64 0, .int .u64 0]) ?_ 4 _ rfl; (with_reducible repeat (first | refine blk_drewN ?_ _ | refine blk_drew ?_ | refine blk_alloc ?_ _)); refine blk_put (cs := #[.int .u64 t201, .int .u64 t202, .int .u64 t203, .int .u64 0, .int .u64 0, .int .u64 0]) ?_ 3 _ rfl; (with_reducible repeat (first | refine blk_drewN ?_ _ | refine blk_drew ?_ | refine blk_alloc ?_ _)); refine blk_put (cs := #[.int .u64 t201, .int .u64 t202, .int .u64 0, .int .u64 0, .int .u64 0, .int .u64 0]) ?_ 2 _ rfl; (with_reducible repeat (first | refine blk_drewN ?_ _ | refine blk_drew ?_ | refine blk_alloc ?_ _)); refine blk_put (cs := #[.int .u64 t201, .int .u64 0, .int .u64 0, .int .u64 0, .int .u64 0, .int .u64 0]) ?_ 1 _ rfl; (with_reducible repeat (first | refine blk_drewN ?_ _ | refine blk_drew ?_ | refine blk_alloc ?_ _)); refine blk_put (cs := #[.int .u64 0, .int .u64 0, .int .u64 0, .int .u64 0, .int .u64 0, .int .u64 0]) ?_ 0 _ rfl; (with_reducible repeat (first | refine blk_drewN ?_ _ | refine blk_drew ?_ | refine blk_alloc ?_ _)); exact BK208.out) hb); have n2_ := Aside0.mk (below_step (by repeat (first | (with_reducible first | exact HB.out | apply below_alloc | apply pw_below_drewN | apply below_drew1 | refine below_set ?_ GE199.out | refine below_set ?_ GE208.out) | exact HB.out)) hb); clear BK199; clear BK208; clear HB; have BK199 := n0_; have BK208 := n1_; have HB := n2_; clear n0_ n1_ n2_; (try clear hb); (try clear hb2); (try clear hk); (try clear hi))); go_upto_region 7 with (first | (go_at_call 39; (with_reducible refine (logbookref29_Parse.calls kj2 (a0.extract 9 (t200 : Int).toNat) t201 t202 t203 t204 t205 t206 t207 _ A12.out).mono ?_); rintro e w15 ⟨rfl, hb⟩; have n0_ := Aside0.mk (blk_below (g := gb199) (o := .cells #[.int .u64 0, .int .u64 0, .int .u64 0, .int .u64 0, .int .u64 0, .int .u64 0] 23 (0, 0)) (by (with_reducible repeat (first | refine blk_drewN ?_ _ | refine blk_drew ?_ | refine blk_alloc ?_ _)); exact BK199.out) hb); have n1_ := Aside0.mk (below_step (by repeat (first | (with_reducible first | exact HB.out | apply below_alloc | apply pw_below_drewN | apply below_drew1 | refine below_set ?_ GE199.out) | exact HB.out)) hb); clear BK199; clear HB; have BK199 := n0_; have HB := n1_; clear n0_ n1_; (try clear hb); (try clear hb2); (try clear hk); (try clear hi)) | ((with_reducible refine gate_dst (N := 7) rfl ?_); (try (refine gate_guard (by rfl) ?_; dsimp only)); refine box_event ?hg (N := 7) ?hd (cs := #[.int .u64 0, .int .u64 0, .int .u64 0, .int .u64 0, .int .u64 0, .int .u64 0]) (t := 23) ?hr ?_; (case hd => rfl); (case hg => rfl); (case hr => first | (go_simp; done) | (go_simp; rfl)); intro gb208 hg w16 hbox hb; have n0_ := Aside0.mk (blk_below (g := gb199) (o := .cells #[.int .u64 0, .int .u64 0, .int .u64 0, .int .u64 0, .int .u64 0, .int .u64 0] 23 (0, 0)) (by (with_reducible repeat (first | refine blk_drewN ?_ _ | refine blk_drew ?_ | refine blk_alloc ?_ _)); exact BK199.out) hb); have n1_ := Aside0.mk (below_step (by repeat (first | (with_reducible first | exact HB.out | apply below_alloc | apply pw_below_drewN | apply below_drew1 | refine below_set ?_ GE199.out) | exact HB.out)) hb); have n2_ := Aside0.mk (hbox); have n3_ := Aside0.mk ((by rw [hg]; exact (below_size (by repeat (first | (with_reducible first | exact HB.out | apply below_alloc | apply pw_below_drewN | apply below_drew1 | refine below_set ?_ GE199.out) | exact HB.out))) : w.heap.size ≤ gb208)); have n4_ := Aside0.mk ((by rw [hg]; exact (below_size (by repeat (first | (with_reducible first | exact HB.out | apply below_alloc | apply pw_below_drewN | apply below_drew1 | refine below_set ?_ GE199.out) | exact HB.out))) : w.heap.size ≤ gb208)); have n5_ := Aside0.mk ((by rw [hg]; exact Nat.ne_of_lt (blk_lt (g := gb199) (o := .cells #[.int .u64 0, .int .u64 0, .int .u64 0, .int .u64 0, .int .u64 0, .int .u64 0] 23 (0, 0)) (by (with_reducible repeat (first | refine blk_drewN ?_ _ | refine blk_drew ?_ | refine blk_alloc ?_ _)); exact BK199.out)) : gb199 ≠ gb208)); have n6_ := Aside0.mk ((by rw [hg]; exact Nat.ne_of_gt (blk_lt (g := gb199) (o := .cells #[.int .u64 0, .int .u64 0, .int .u64 0, .int .u64 0, .int .u64 0, .int .u64 0] 23 (0, 0)) (by (with_reducible repeat (first | refine blk_drewN ?_ _ | refine blk_drew ?_ | refine blk_alloc ?_ _)); exact BK199.out)) : gb208 ≠ gb199)); clear BK199; clear HB; have BK199 := n0_; have HB := n1_; have BK208 := n2_; have GW208 := n3_; have GE208 := n4_; have NB199_208 := n5_; have NB208_199 := n6_; clear n0_ n1_ n2_ n3_ n4_ n5_ n6_; clear hb hbox hg; have hnb17 := NB208_199.out; have hnc17 := NB199_208.out; have hcz18_0 : w16.cell? ⟨gb208, 0, none⟩ = some (.int .u64 0) := (blk_cell BK208.out 0).trans rfl; have hcz18_1 : w16.cell? ⟨gb208, 1, none⟩ = some (.int .u64 0) := (blk_cell BK208.out 1).trans rfl; have hcz18_2 : w16.cell? ⟨gb208, 2, none⟩ = some (.int .u64 0) := (blk_cell BK208.out 2).trans rfl; have hcz18_3 : w16.cell? ⟨gb208, 3, none⟩ = some (.int .u64 0) := (blk_cell BK208.out 3).trans rfl; have hcz18_4 : w16.cell? ⟨gb208, 4, none⟩ = some (.int .u64 0) := (blk_cell BK208.out 4).trans rfl; have hcz18_5 : w16.cell? ⟨gb208, 5, none⟩ = some (.int .u64 0) := (blk_cell BK208.out 5).trans rfl; have hfz18_0 := blk_frozen BK208.out 0; have hfz18_1 := blk_frozen BK208.out 1; have hfz18_2 := blk_frozen BK208.out 2; have hfz18_3 := blk_frozen BK208.out 3; have hfz18_4 := blk_frozen BK208.out 4; have hfz18_5 := blk_frozen BK208.out 5) | (go_at_call 12; (refine (logbookref32_Entry.calls kj2 t201 t202 t203 t204 t205 t206 _ _ ([] : List ByteArray) t209 _ ?side1 ?side2 A13.out).mono ?_); (case side1 => exact Kd.C_nil _ _); (case side2 => exact Nat.le_refl _); rintro e w19 ⟨rfl, hb⟩; have n0_ := Aside0.mk (blk_below (g := gb199) (o := .cells #[.int .u64 0, .int .u64 0, .int .u64 0, .int .u64 0, .int .u64 0, .int .u64 0] 23 (0, 0)) (by (with_reducible repeat (first | refine blk_drewN ?_ _ | refine blk_drew ?_ | refine blk_alloc ?_ _)); refine blk_far ?_ NB199_208.out _; (with_reducible repeat (first | refine blk_drewN ?_ _ | refine blk_drew ?_ | refine blk_alloc ?_ _)); refine blk_far ?_ NB199_208.out _; (with_reducible repeat (first | refine blk_drewN ?_ _ | refine blk_drew ?_ | refine blk_alloc ?_ _)); refine blk_far ?_ NB199_208.out _; (with_reducible repeat (first | refine blk_drewN ?_ _ | refine blk_drew ?_ | refine blk_alloc ?_ _)); refine blk_far ?_ NB199_208.out _; (with_reducible repeat (first | refine blk_drewN ?_ _ | refine blk_drew ?_ | refine blk_alloc ?_ _)); refine blk_far ?_ NB199_208.out _; (with_reducible repeat (first | refine blk_drewN ?_ _ | refine blk_drew ?_ | refine blk_alloc ?_ _)); refine blk_far ?_ NB199_208.out _; (with_reducible repeat (first | refine blk_drewN ?_ _ | refine blk_drew ?_ | refine blk_alloc ?_ _)); exact BK199.out) hb); have n1_ := Aside0.mk (blk_below (g := gb208) (o := .cells #[.int .u64 t201, .int .u64 t202, .int .u64 t203, .int .u64 t204, .int .u64 t205, .int .u64 t206] 23 (0, 0)) (by (with_reducible repeat (first | refine blk_drewN ?_ _ | refine blk_drew ?_ | refine blk_alloc ?_ _)); refine blk_put (cs := #[.int .u64 t201, .int .u64 t202, .int .u64 t203, .int .u64 t204, .int .u64 t205, .int .u64 0]) ?_ 5 _ rfl; (with_reducible repeat (first | refine blk_drewN ?_ _ | refine blk_drew ?_ | refine blk_alloc ?_ _)); refine blk_put (cs := #[.int .u64 t201, .int .u64 t202, .int .u64 t203, .int .u64 t204, .int .u64 0, .int .u64 0]) ?_ 4 _ rfl; (with_reducible repeat (first | refine blk_drewN ?_ _ | refine blk_drew ?_ | refine blk_alloc ?_ _)); refine blk_put (cs := #[.int .u64 t201, .int .u64 t202, .int .u64 t203, .int .u64 0, .int .u64 0, .int .u64 0]) ?_ 3 _ rfl; (with_reducible repeat (first | refine blk_drewN ?_ _ | refine blk_drew ?_ | refine blk_alloc ?_ _)); refine blk_put (cs := #[.int .u64 t201, .int .u64 t202, .int .u64 0, .int .u64 0, .int .u64 0, .int .u64 0]) ?_ 2 _ rfl; (with_reducible repeat (first | refine blk_drewN ?_ _ | refine blk_drew ?_ | refine blk_alloc ?_ _)); refine blk_put (cs := #[.int .u64 t201, .int .u64 0, .int .u64 0, .int .u64 0, .int .u64 0, .int .u64 0]) ?_ 1 _ rfl; (with_reducible repeat (first | refine blk_drewN ?_ _ | refine blk_drew ?_ | refine blk_alloc ?_ _)); refine blk_put (cs := #[.int .u64 0, .int .u64 0, .int .u64 0, .int .u64 0, .int .u64 0, .int .u64 0]) ?_ 0 _ rfl; (with_reducible repeat (first | refine blk_drewN ?_ _ | refine blk_drew ?_ | refine blk_alloc ?_ _)); exact BK208.out) hb); have n2_ := Aside0.mk (below_step (by repeat (first | (with_reducible first | exact HB.out | apply below_alloc | apply pw_below_drewN | apply below_drew1 | refine below_set ?_ GE199.out | refine below_set ?_ GE208.out) | exact HB.out)) hb); clear BK199; clear BK208; clear HB; have BK199 := n0_; have BK208 := n1_; have HB := n2_; clear n0_ n1_ n2_; (try clear hb); (try clear hb2); (try clear hk); (try clear hi))))
      (try simp only [Act.put, List.setIfInBounds_toArray, List.set_cons_zero, List.set_cons_succ])
      go_cut [53] (fun v53 wc => ∃ (kq : Nat) (x53_13 : Bool), v53 = .bool x53_13 ∧ Aside0 (logbookref32_Read.j1 kq a0 (wrap64 ((t209.size : Int) - 1)) x53_13 t201 t202 t203 t204 t205 t206 = some (r1, r2, r3, r4, r5, r6, r7, r8, r9)) ∧ Aside0 (kq ≤ kj2) ∧ Aside0 (wc.heap[gb199]? = some (.cells #[.int .u64 0, .int .u64 0, .int .u64 0, .int .u64 0, .int .u64 0, .int .u64 0] 23 (0, 0))) ∧ Aside0 (wc.heap[gb208]? = some (.cells #[.int .u64 t201, .int .u64 t202, .int .u64 t203, .int .u64 t204, .int .u64 t205, .int .u64 t206] 23 (0, 0))) ∧ Aside0 (Below w.heap.size w wc))
      case first =>
       have H := HC14.out
       clear HC14
       by_cases c20 : t207 = true
       ·subst c20
        have H1 : (if (a0.size : Int) < (wrap64 ((t209.size : Int) - 1)) then (logbookref32_Read.j1 kj2 a0 (wrap64 ((t209.size : Int) - 1)) true t201 t202 t203 t204 t205 t206) else (if 0 ≤ (wrap64 ((t209.size : Int) - 1)) then (if (wrap64 ((t209.size : Int) - 1)) ≤ (a0.size : Int) then (if (wrap64 ((t209.size : Int) - 1)) ≤ (t209.size : Int) then (logbookref32_Read.j1 kj2 a0 (wrap64 ((t209.size : Int) - 1)) ((a0.extract 0 ((wrap64 ((t209.size : Int) - 1)) : Int).toNat).toList != (t209.extract 0 ((wrap64 ((t209.size : Int) - 1)) : Int).toNat).toList) t201 t202 t203 t204 t205 t206) else (none)) else (none)) else (none))) = some (r1, r2, r3, r4, r5, r6, r7, r8, r9) := by rw [if_pos rfl] at H; exact H
        clear H
        have H := H1
        clear H1
        by_cases c21 : (a0.size : Int) < (wrap64 ((t209.size : Int) - 1))
        ·rw [if_pos c21] at H
         have c21b0 : decide ((a0.size : Int) < (wrap64 ((t209.size : Int) - 1))) = true := decide_eq_true c21
         clear c21
         (first | rw [c21b0] | (simp only [i64_w, i32_w]; rw [c21b0]) | skip)
         have H' := Aside0.mk H
         clear H
         go_wp2
         repeat (go_quiet (fail); try go_wp2)
         go_meet
         case rel => exact ⟨_, (true), (by first | rfl | (simp; done) | (simp [*]; done) | exact isEmpty_bne _), H', ⟨by have := HJ2.out; first | omega | exact Nat.le_refl _⟩, ⟨by (with_reducible repeat (first | refine blk_drewN ?_ _ | refine blk_drew ?_ | refine blk_alloc ?_ _)); exact BK199.out⟩, ⟨by (with_reducible repeat (first | refine blk_drewN ?_ _ | refine blk_drew ?_ | refine blk_alloc ?_ _)); exact BK208.out⟩, ⟨by repeat (first | (with_reducible first | exact HB.out | apply below_alloc | apply pw_below_drewN | apply below_drew1 | refine below_set ?_ GE199.out | refine below_set ?_ GE208.out) | exact HB.out)⟩⟩
        ·rw [if_neg c21] at H
         have c21b0 : decide ((a0.size : Int) < (wrap64 ((t209.size : Int) - 1))) = false := decide_eq_false c21
         clear c21
         (first | rw [c21b0] | (simp only [i64_w, i32_w]; rw [c21b0]) | skip)
         obtain ⟨ji22, hji22⟩ : ∃ j_ : Int, (wrap64 ((t209.size : Int) - 1)) = j_ := ⟨_, rfl⟩
         replace H : (if 0 ≤ (ji22) then (if (ji22) ≤ (a0.size : Int) then (if (ji22) ≤ (t209.size : Int) then (logbookref32_Read.j1 kj2 a0 ji22 ((a0.extract 0 ((ji22) : Int).toNat).toList != (t209.extract 0 ((ji22) : Int).toNat).toList) t201 t202 t203 t204 t205 t206) else (none)) else (none)) else (none)) = some (r1, r2, r3, r4, r5, r6, r7, r8, r9) := by first | (rw [hji22] at H; exact H) | (simp only [hji22] at H ⊢; exact H)
         (try rw [hji22] at c21b0)
         have hji22w : (IntKind.i64.wrap ((t209.size : Int) - 1)) = ji22 := (i64_w _).trans hji22
         by_cases c23 : 0 ≤ (ji22)
         ·rw [if_pos c23] at H
          have c23b0 := eq_true c23
          have c23b1 : decide (0 ≤ (ji22)) = true := decide_eq_true c23
          clear c23
          by_cases c24 : (ji22) ≤ (a0.size : Int)
          ·rw [if_pos c24] at H
           have c24b0 := eq_true c24
           have c24b1 : decide ((ji22) ≤ (a0.size : Int)) = true := decide_eq_true c24
           clear c24
           have c25b0 := eq_true (of_decide_eq_true (by first | (with_reducible assumption) | assumption) : 0 ≤ (ji22))
           by_cases c26 : (ji22) ≤ (t209.size : Int)
           ·rw [if_pos c26] at H
            have c26b0 := eq_true c26
            have c26b1 : decide ((ji22) ≤ (t209.size : Int)) = true := decide_eq_true c26
            clear c26
            have H' := Aside0.mk H
            clear H
            go_wp2
            repeat (go_quiet (fail); try go_wp2)
            go_meet
            case rel => exact ⟨_, (((a0.extract 0 ((ji22) : Int).toNat).toList != (t209.extract 0 ((ji22) : Int).toNat).toList)), (by first | rfl | (simp; done) | (simp only [← hji22] <;> (first | rfl | simp)) | (simp [*]; done)), (by first | (with_reducible exact H') | (try rw [hji22]; exact H')), ⟨by have := HJ2.out; first | omega | exact Nat.le_refl _⟩, ⟨by (with_reducible repeat (first | refine blk_drewN ?_ _ | refine blk_drew ?_ | refine blk_alloc ?_ _)); exact BK199.out⟩, ⟨by (with_reducible repeat (first | refine blk_drewN ?_ _ | refine blk_drew ?_ | refine blk_alloc ?_ _)); exact BK208.out⟩, ⟨by repeat (first | (with_reducible first | exact HB.out | apply below_alloc | apply pw_below_drewN | apply below_drew1 | refine below_set ?_ GE199.out | refine below_set ?_ GE208.out) | exact HB.out)⟩⟩
           ·rw [if_neg c26] at H
            exact absurd H (by simp)
          ·rw [if_neg c24] at H
           exact absurd H (by simp)
         ·rw [if_neg c23] at H
          exact absurd H (by simp)
       ·replace c20 := Bool.eq_false_iff.mpr c20
        subst c20
        have H1 : (logbookref32_Read.j1 kj2 a0 (wrap64 ((t209.size : Int) - 1)) true t201 t202 t203 t204 t205 t206) = some (r1, r2, r3, r4, r5, r6, r7, r8, r9) := by rw [if_neg (show ¬ (false = true) by decide)] at H; exact H
        clear H
        have H := H1
        clear H1
        have H' := Aside0.mk H
        clear H
        go_wp2
        repeat (go_quiet (fail); try go_wp2)
        go_meet
        case rel => exact ⟨_, (true), (by first | rfl | (simp; done) | (simp [*]; done) | exact isEmpty_bne _), H', ⟨by have := HJ2.out; first | omega | exact Nat.le_refl _⟩, ⟨by (with_reducible repeat (first | refine blk_drewN ?_ _ | refine blk_drew ?_ | refine blk_alloc ?_ _)); exact BK199.out⟩, ⟨by (with_reducible repeat (first | refine blk_drewN ?_ _ | refine blk_drew ?_ | refine blk_alloc ?_ _)); exact BK208.out⟩, ⟨by repeat (first | (with_reducible first | exact HB.out | apply below_alloc | apply pw_below_drewN | apply below_drew1 | refine below_set ?_ GE199.out | refine below_set ?_ GE208.out) | exact HB.out)⟩⟩
      case rest =>
       clear HC14
       try clear c1
       try clear c2
       try clear p2
       try clear c5
       try clear c5b0
       try clear c6
       try clear c6b0
       try clear c6b1
       try clear p6
       try clear c7
       try clear c7b0
       try clear c7b1
       try clear c8
       try clear c10
       try clear c10b0
       try clear c10b1
       try clear c11
       try clear c11b0
       try clear c11b1
       try clear c14
       try clear c17
       try clear c20
       try clear c21
       try clear c21b0
       try clear c23
       try clear c23b0
       try clear c23b1
       try clear c24
       try clear c24b0
       try clear c24b1
       try clear c25
       try clear c25b0
       try clear c26
       try clear c26b0
       try clear c26b1
       try clear hcz18_0
       try clear hcz18_1
       try clear hcz18_2
       try clear hcz18_3
       try clear hcz18_4
       try clear hcz18_5
       try clear hcz9_0
       try clear hcz9_1
       try clear hcz9_2
       try clear hcz9_3
       try clear hcz9_4
       try clear hcz9_5
       try clear hfz18_0
       try clear hfz18_1
       try clear hfz18_2
       try clear hfz18_3
       try clear hfz18_4
       try clear hfz18_5
       try clear hfz9_0
       try clear hfz9_1
       try clear hfz9_2
       try clear hfz9_3
       try clear hfz9_4
       try clear hfz9_5
       try clear p2
       obtain ⟨kq, x53_13, rfl, HA, HJ13, BK199, BK208, HB⟩ := hcut
       cases kq with
       | zero => exact absurd HA.out (by simp [logbookref32_Read.j1])
       | succ kj13 =>
        have H := HA.out
        clear HA
        simp only [logbookref32_Read.j1] at H
        by_cases c27 : x53_13 = true
        ·subst c27
         have H1 : (some (0, 0, 0, 0, 0, 0, ([] : List ByteArray), 0, false)) = some (r1, r2, r3, r4, r5, r6, r7, r8, r9) := by rw [if_pos rfl] at H; exact H
         clear H
         have H := H1
         clear H1
         simp only [Option.some.injEq, Prod.mk.injEq] at H
         obtain ⟨rfl, rfl, rfl, rfl, rfl, rfl, rfl, rfl, rfl⟩ := H
         have hnb28 := NB199_208.out
         have hnc28 := NB208_199.out
         have hcz29_0 : wc.cell? ⟨gb199, 0, none⟩ = some (.int .u64 0) := (blk_cell BK199.out 0).trans rfl
         have hcz29_1 : wc.cell? ⟨gb199, 1, none⟩ = some (.int .u64 0) := (blk_cell BK199.out 1).trans rfl
         have hcz29_2 : wc.cell? ⟨gb199, 2, none⟩ = some (.int .u64 0) := (blk_cell BK199.out 2).trans rfl
         have hcz29_3 : wc.cell? ⟨gb199, 3, none⟩ = some (.int .u64 0) := (blk_cell BK199.out 3).trans rfl
         have hcz29_4 : wc.cell? ⟨gb199, 4, none⟩ = some (.int .u64 0) := (blk_cell BK199.out 4).trans rfl
         have hcz29_5 : wc.cell? ⟨gb199, 5, none⟩ = some (.int .u64 0) := (blk_cell BK199.out 5).trans rfl
         have hfz29_0 := blk_frozen BK199.out 0
         have hfz29_1 := blk_frozen BK199.out 1
         have hfz29_2 := blk_frozen BK199.out 2
         have hfz29_3 := blk_frozen BK199.out 3
         have hfz29_4 := blk_frozen BK199.out 4
         have hfz29_5 := blk_frozen BK199.out 5
         go_wp2
         repeat (go_quiet (fail); try go_wp2)
         refine bodyPost_ret (results_list (rs := [.cell 2 23, .tmp 3, .tmp 4, .tmp 5]) rfl (by simp) (.cell gb199 23 #[.int .u64 0, .int .u64 0, .int .u64 0, .int .u64 0, .int .u64 0, .int .u64 0] (0, 0) _ rfl (by (with_reducible repeat (first | refine blk_drewN ?_ _ | refine blk_drew ?_ | refine blk_alloc ?_ _)); refine blk_put (cs := #[.int .u64 0, .int .u64 0, .int .u64 0, .int .u64 0, .int .u64 0, .int .u64 0]) ?_ 5 _ rfl; (with_reducible repeat (first | refine blk_drewN ?_ _ | refine blk_drew ?_ | refine blk_alloc ?_ _)); refine blk_put (cs := #[.int .u64 0, .int .u64 0, .int .u64 0, .int .u64 0, .int .u64 0, .int .u64 0]) ?_ 4 _ rfl; (with_reducible repeat (first | refine blk_drewN ?_ _ | refine blk_drew ?_ | refine blk_alloc ?_ _)); refine blk_put (cs := #[.int .u64 0, .int .u64 0, .int .u64 0, .int .u64 0, .int .u64 0, .int .u64 0]) ?_ 3 _ rfl; (with_reducible repeat (first | refine blk_drewN ?_ _ | refine blk_drew ?_ | refine blk_alloc ?_ _)); refine blk_put (cs := #[.int .u64 0, .int .u64 0, .int .u64 0, .int .u64 0, .int .u64 0, .int .u64 0]) ?_ 2 _ rfl; (with_reducible repeat (first | refine blk_drewN ?_ _ | refine blk_drew ?_ | refine blk_alloc ?_ _)); refine blk_put (cs := #[.int .u64 0, .int .u64 0, .int .u64 0, .int .u64 0, .int .u64 0, .int .u64 0]) ?_ 1 _ rfl; (with_reducible repeat (first | refine blk_drewN ?_ _ | refine blk_drew ?_ | refine blk_alloc ?_ _)); refine blk_put (cs := #[.int .u64 0, .int .u64 0, .int .u64 0, .int .u64 0, .int .u64 0, .int .u64 0]) ?_ 0 _ rfl; (with_reducible repeat (first | refine blk_drewN ?_ _ | refine blk_drew ?_ | refine blk_alloc ?_ _)); exact BK199.out) Tryd.underlying23 rfl (by kernel_rfl) (.tmp (.tmp (.tmp .nil))))) rfl ?_
         exact ⟨_, by first | rfl | (simp [errW_none, errW_some] <;> rfl) | (simp [*, errW_none, errW_some] <;> rfl), by first | exact Kd.R_nil _ _ _ _ _ | exact Kd.N_nil _ _ _ _ _ | exact Kd.V_nil _ _ _ _ _ | exact Kd.Q_nil _ _ _ _ _ | exact Kd.S_nil _ _ _ _ _, by repeat (first | (with_reducible first | exact HB.out | apply below_alloc | apply pw_below_drewN | apply below_drew1 | refine below_set ?_ GE199.out | refine below_set ?_ GE208.out) | exact HB.out)⟩
        ·replace c27 := Bool.eq_false_iff.mpr c27
         subst c27
         have H1 : (logbookref32_Read.l0 kj13 a0 (wrap64 ((t209.size : Int) - 1)) ([] : List ByteArray) 0 t201 t202 t203 t204 t205 t206) = some (r1, r2, r3, r4, r5, r6, r7, r8, r9) := by rw [if_neg (show ¬ (false = true) by decide)] at H; exact H
         clear H
         have H := H1
         clear H1
         have H' := Aside0.mk H
         clear H
         go_wp2
         repeat (go_quiet (fail); try go_wp2)
         go_loopg [10, 11, 12] kj13 (fun kq v10 v11 v12 w' => ∃ (x10_3 : Int) (x11_3 : List ByteArray) (x12_3 : Int) (z0_3 : Int) (z1_3 : Int) (z2_3 : Int) (z3_3 : Int) (z4_3 : Int) (z5_3 : Int), v10 = .int .i64 x10_3 ∧ v12 = .int .i64 x12_3 ∧ Aside0 (logbookref32_Read.l0 kq a0 x10_3 x11_3 x12_3 t201 t202 t203 t204 t205 t206 = some (r1, r2, r3, r4, r5, r6, r7, r8, r9)) ∧ Aside0 (kq ≤ kj13) ∧ Aside0 (Kd.R Kd.string 9 w' w.heap.size (fun _ => True) v11 x11_3) ∧ Aside0 (w'.heap[gb199]? = some (.cells #[.int .u64 z0_3, .int .u64 z1_3, .int .u64 z2_3, .int .u64 z3_3, .int .u64 z4_3, .int .u64 z5_3] 23 (0, 0))) ∧ Aside0 (w'.heap[gb208]? = some (.cells #[.int .u64 t201, .int .u64 t202, .int .u64 t203, .int .u64 t204, .int .u64 t205, .int .u64 t206] 23 (0, 0))) ∧ Aside0 (Below w.heap.size w w'))
         case atStart => exact ⟨((wrap64 ((t209.size : Int) - 1))), (([] : List ByteArray)), (0), (0), (0), (0), (0), (0), (0), (by first | rfl | (simp; done) | (simp [*]; done) | exact isEmpty_bne _), (by first | rfl | (simp; done) | (simp [*]; done) | exact isEmpty_bne _), H', ⟨Nat.le_refl _⟩, ⟨by first | exact Kd.R_nil _ _ _ _ _ | exact Kd.N_nil _ _ _ _ _ | exact Kd.V_nil _ _ _ _ _ | exact Kd.Q_nil _ _ _ _ _ | exact Kd.S_nil _ _ _ _ _⟩, ⟨by (with_reducible repeat (first | refine blk_drewN ?_ _ | refine blk_drew ?_ | refine blk_alloc ?_ _)); exact BK199.out⟩, ⟨by (with_reducible repeat (first | refine blk_drewN ?_ _ | refine blk_drew ?_ | refine blk_alloc ?_ _)); exact BK208.out⟩, ⟨by repeat (first | (with_reducible first | exact HB.out | apply below_alloc | apply pw_below_drewN | apply below_drew1 | refine below_set ?_ GE199.out | refine below_set ?_ GE208.out) | exact HB.out)⟩⟩
         case round =>
          clear H'
          try clear c1
          try clear c2
          try clear p2
          try clear c5
          try clear c5b0
          try clear c6
          try clear c6b0
          try clear c6b1
          try clear p6
          try clear c7
          try clear c7b0
          try clear c7b1
          try clear c8
          try clear c10
          try clear c10b0
          try clear c10b1
          try clear c11
          try clear c11b0
          try clear c11b1
          try clear c14
          try clear c17
          try clear c20
          try clear c21
          try clear c21b0
          try clear c23
          try clear c23b0
          try clear c23b1
          try clear c24
          try clear c24b0
          try clear c24b1
          try clear c25
          try clear c25b0
          try clear c26
          try clear c26b0
          try clear c26b1
          try clear c27
          try clear c28
          try clear hcz18_0
          try clear hcz18_1
          try clear hcz18_2
          try clear hcz18_3
          try clear hcz18_4
          try clear hcz18_5
          try clear hcz29_0
          try clear hcz29_1
          try clear hcz29_2
          try clear hcz29_3
          try clear hcz29_4
          try clear hcz29_5
          try clear hcz9_0
          try clear hcz9_1
          try clear hcz9_2
          try clear hcz9_3
          try clear hcz9_4
          try clear hcz9_5
          try clear hfz18_0
          try clear hfz18_1
          try clear hfz18_2
          try clear hfz18_3
          try clear hfz18_4
          try clear hfz18_5
          try clear hfz29_0
          try clear hfz29_1
          try clear hfz29_2
          try clear hfz29_3
          try clear hfz29_4
          try clear hfz29_5
          try clear hfz9_0
          try clear hfz9_1
          try clear hfz9_2
          try clear hfz9_3
          try clear hfz9_4
          try clear hfz9_5
          try clear p2
          try clear p6
          obtain ⟨x10_3, x11_3, x12_3, z0_3, z1_3, z2_3, z3_3, z4_3, z5_3, rfl, rfl, HA, HK3, HO_11, BK199, BK208, HB⟩ := hrel
          cases gk with
          | zero => exact absurd HA.out (by simp [logbookref32_Read.l0])
          | succ k3 =>
           have H := HA.out
           clear HA
           simp only [logbookref32_Read.l0] at H
           by_cases c30 : x12_3 ≤ 64
           ·rw [if_pos c30] at H
            have c30b0 : decide (x12_3 ≤ 64) = true := decide_eq_true c30
            clear c30
            have HC31 := Aside0.mk H
            clear H
            go_upto_region 13 with (fail)
            repeat (go_quiet (fail); go_upto_region 13 with (fail))
            go_cut [72] (fun v72 wc => ∃ (kq : Nat) (x72_30 : Bool), v72 = .bool x72_30 ∧ Aside0 (logbookref32_Read.j3 kq a0 x10_3 x11_3 x12_3 x72_30 t201 t202 t203 t204 t205 t206 = some (r1, r2, r3, r4, r5, r6, r7, r8, r9)) ∧ Aside0 (kq ≤ k3) ∧ Aside0 (Kd.R Kd.string 9 wc w.heap.size (fun _ => True) u11 x11_3) ∧ Aside0 (wc.heap[gb199]? = some (.cells #[.int .u64 z0_3, .int .u64 z1_3, .int .u64 z2_3, .int .u64 z3_3, .int .u64 z4_3, .int .u64 z5_3] 23 (0, 0))) ∧ Aside0 (wc.heap[gb208]? = some (.cells #[.int .u64 t201, .int .u64 t202, .int .u64 t203, .int .u64 t204, .int .u64 t205, .int .u64 t206] 23 (0, 0))) ∧ Aside0 (Below w.heap.size w wc))
            case first =>
             have H := HC31.out
             clear HC31
             by_cases c32 : x10_3 < (a0.size : Int)
             ·rw [if_pos c32] at H
              have c32b0 : decide (x10_3 < (a0.size : Int)) = true := decide_eq_true c32
              clear c32
              (first | rw [c32b0] | (simp only [i64_w, i32_w]; rw [c32b0]) | skip)
              by_cases c33 : 0 ≤ x10_3
              ·rw [if_pos c33] at H
               have c33b0 : decide (0 ≤ x10_3) = true := decide_eq_true c33
               clear c33
               by_cases c35 : (bt a0 x10_3) = 10
               ·rw [if_pos c35] at H
                have c35b0 : ((bt a0 x10_3) == 10) = true := beq_iff_eq.mpr c35
                have c35b1 : ((bt a0 x10_3) != 10) = false := bne_eq_false_iff_eq.mpr c35
                clear c35
                have H' := Aside0.mk H
                clear H
                have p34 : 0 ≤ (x10_3 : Int) := of_decide_eq_true (by first | (with_reducible assumption) | assumption)
                have q34 : x10_3 < (a0.size : Int) := of_decide_eq_true (by first | (with_reducible assumption) | assumption)
                have hx34 := bt_at a0 x10_3
                replace p34 := eq_true p34
                replace q34 := eq_true q34
                go_wp2
                repeat (go_quiet (fail); try go_wp2)
                go_meet
                case rel => exact ⟨_, (decide (x12_3 > 0)), (by first | rfl | (simp; done) | (simp [*]; done) | exact isEmpty_bne _), H', ⟨by have := HJ2.out; have := HJ13.out; have := HK3.out; first | omega | exact Nat.le_refl _⟩, ⟨by (with_reducible repeat (first | apply Kd.R_alloc | apply Kd.R_drewN | apply Kd.R_drew)); exact HO_11.out⟩, ⟨by (with_reducible repeat (first | refine blk_drewN ?_ _ | refine blk_drew ?_ | refine blk_alloc ?_ _)); exact BK199.out⟩, ⟨by (with_reducible repeat (first | refine blk_drewN ?_ _ | refine blk_drew ?_ | refine blk_alloc ?_ _)); exact BK208.out⟩, ⟨by repeat (first | (with_reducible first | exact HB.out | apply below_alloc | apply pw_below_drewN | apply below_drew1 | refine below_set ?_ GE199.out | refine below_set ?_ GE208.out) | exact HB.out)⟩⟩
               ·rw [if_neg c35] at H
                have c35b0 : ((bt a0 x10_3) == 10) = false := beq_eq_false_iff_ne.mpr c35
                have c35b1 : ((bt a0 x10_3) != 10) = true := bne_iff_ne.mpr c35
                have H' := Aside0.mk H
                clear H
                have p34 : 0 ≤ (x10_3 : Int) := of_decide_eq_true (by first | (with_reducible assumption) | assumption)
                have q34 : x10_3 < (a0.size : Int) := of_decide_eq_true (by first | (with_reducible assumption) | assumption)
                have hx34 := bt_at a0 x10_3
                replace p34 := eq_true p34
                replace q34 := eq_true q34
                go_wp2
                repeat (go_quiet (fail); try go_wp2)
                go_meet
                case rel => exact ⟨_, (false), (by first | rfl | (simp; done) | (simp [*]; done) | exact isEmpty_bne _), H', ⟨by have := HJ2.out; have := HJ13.out; have := HK3.out; first | omega | exact Nat.le_refl _⟩, ⟨by (with_reducible repeat (first | apply Kd.R_alloc | apply Kd.R_drewN | apply Kd.R_drew)); exact HO_11.out⟩, ⟨by (with_reducible repeat (first | refine blk_drewN ?_ _ | refine blk_drew ?_ | refine blk_alloc ?_ _)); exact BK199.out⟩, ⟨by (with_reducible repeat (first | refine blk_drewN ?_ _ | refine blk_drew ?_ | refine blk_alloc ?_ _)); exact BK208.out⟩, ⟨by repeat (first | (with_reducible first | exact HB.out | apply below_alloc | apply pw_below_drewN | apply below_drew1 | refine below_set ?_ GE199.out | refine below_set ?_ GE208.out) | exact HB.out)⟩⟩
              ·rw [if_neg c33] at H
               exact absurd H (by simp)
             ·rw [if_neg c32] at H
              have c32b0 : decide (x10_3 < (a0.size : Int)) = false := decide_eq_false c32
              clear c32
              (first | rw [c32b0] | (simp only [i64_w, i32_w]; rw [c32b0]) | skip)
              have H' := Aside0.mk H
              clear H
              go_wp2
              repeat (go_quiet (fail); try go_wp2)
              go_meet
              case rel => exact ⟨_, (false), (by first | rfl | (simp; done) | (simp [*]; done) | exact isEmpty_bne _), H', ⟨by have := HJ2.out; have := HJ13.out; have := HK3.out; first | omega | exact Nat.le_refl _⟩, ⟨by (with_reducible repeat (first | apply Kd.R_alloc | apply Kd.R_drewN | apply Kd.R_drew)); exact HO_11.out⟩, ⟨by (with_reducible repeat (first | refine blk_drewN ?_ _ | refine blk_drew ?_ | refine blk_alloc ?_ _)); exact BK199.out⟩, ⟨by (with_reducible repeat (first | refine blk_drewN ?_ _ | refine blk_drew ?_ | refine blk_alloc ?_ _)); exact BK208.out⟩, ⟨by repeat (first | (with_reducible first | exact HB.out | apply below_alloc | apply pw_below_drewN | apply below_drew1 | refine below_set ?_ GE199.out | refine below_set ?_ GE208.out) | exact HB.out)⟩⟩
            case rest =>
             clear HC31
             try clear c1
             try clear c2
             try clear p2
             try clear c3
             try clear p3
             try clear q3
             try clear hx3
             try clear c5
             try clear c5b0
             try clear c6
             try clear c6b0
             try clear c6b1
             try clear p6
             try clear c7
             try clear c7b0
             try clear c7b1
             try clear c8
             try clear c10
             try clear c10b0
             try clear c10b1
             try clear c11
             try clear c11b0
             try clear c11b1
             try clear c14
             try clear c17
             try clear c20
             try clear c21
             try clear c21b0
             try clear c23
             try clear c23b0
             try clear c23b1
             try clear c24
             try clear c24b0
             try clear c24b1
             try clear c25
             try clear c25b0
             try clear c26
             try clear c26b0
             try clear c26b1
             try clear c27
             try clear c28
             try clear c30
             try clear c30b0
             try clear c32
             try clear c32b0
             try clear c33
             try clear c33b0
             try clear p34
             try clear q34
             try clear hx34
             try clear c35
             try clear c35b0
             try clear c35b1
             try clear hcz18_0
             try clear hcz18_1
             try clear hcz18_2
             try clear hcz18_3
             try clear hcz18_4
             try clear hcz18_5
             try clear hcz29_0
             try clear hcz29_1
             try clear hcz29_2
             try clear hcz29_3
             try clear hcz29_4
             try clear hcz29_5
             try clear hcz9_0
             try clear hcz9_1
             try clear hcz9_2
             try clear hcz9_3
             try clear hcz9_4
             try clear hcz9_5
             try clear hfz18_0
             try clear hfz18_1
             try clear hfz18_2
             try clear hfz18_3
             try clear hfz18_4
             try clear hfz18_5
             try clear hfz29_0
             try clear hfz29_1
             try clear hfz29_2
             try clear hfz29_3
             try clear hfz29_4
             try clear hfz29_5
             try clear hfz9_0
             try clear hfz9_1
             try clear hfz9_2
             try clear hfz9_3
             try clear hfz9_4
             try clear hfz9_5
             try clear p2
             try clear p34
             try clear p6
             try clear q34
             obtain ⟨kq, x72_30, rfl, HA, HJ30, HO_11, BK199, BK208, HB⟩ := hcut
             cases kq with
             | zero => exact absurd HA.out (by simp [logbookref32_Read.j3])
             | succ kj30 =>
              have H := HA.out
              clear HA
              simp only [logbookref32_Read.j3] at H
              by_cases c36 : x72_30 = true
              ·subst c36
               have H1 : (some (t201, t202, t203, t204, t205, t206, x11_3, wrap64 (x10_3 + 1), true)) = some (r1, r2, r3, r4, r5, r6, r7, r8, r9) := by rw [if_pos rfl] at H; exact H
               clear H
               have H := H1
               clear H1
               simp only [Option.some.injEq, Prod.mk.injEq] at H
               obtain ⟨rfl, rfl, rfl, rfl, rfl, rfl, rfl, rfl, rfl⟩ := H
               have hnb37 := NB208_199.out
               have hnc37 := NB199_208.out
               have hcz38_0 : wc.cell? ⟨gb208, 0, none⟩ = some (.int .u64 t201) := (blk_cell BK208.out 0).trans rfl
               have hcz38_1 : wc.cell? ⟨gb208, 1, none⟩ = some (.int .u64 t202) := (blk_cell BK208.out 1).trans rfl
               have hcz38_2 : wc.cell? ⟨gb208, 2, none⟩ = some (.int .u64 t203) := (blk_cell BK208.out 2).trans rfl
               have hcz38_3 : wc.cell? ⟨gb208, 3, none⟩ = some (.int .u64 t204) := (blk_cell BK208.out 3).trans rfl
               have hcz38_4 : wc.cell? ⟨gb208, 4, none⟩ = some (.int .u64 t205) := (blk_cell BK208.out 4).trans rfl
               have hcz38_5 : wc.cell? ⟨gb208, 5, none⟩ = some (.int .u64 t206) := (blk_cell BK208.out 5).trans rfl
               have hfz38_0 := blk_frozen BK208.out 0
               have hfz38_1 := blk_frozen BK208.out 1
               have hfz38_2 := blk_frozen BK208.out 2
               have hfz38_3 := blk_frozen BK208.out 3
               have hfz38_4 := blk_frozen BK208.out 4
               have hfz38_5 := blk_frozen BK208.out 5
               have hcz39_0 : wc.cell? ⟨gb199, 0, none⟩ = some (.int .u64 z0_3) := (blk_cell BK199.out 0).trans rfl
               have hcz39_1 : wc.cell? ⟨gb199, 1, none⟩ = some (.int .u64 z1_3) := (blk_cell BK199.out 1).trans rfl
               have hcz39_2 : wc.cell? ⟨gb199, 2, none⟩ = some (.int .u64 z2_3) := (blk_cell BK199.out 2).trans rfl
               have hcz39_3 : wc.cell? ⟨gb199, 3, none⟩ = some (.int .u64 z3_3) := (blk_cell BK199.out 3).trans rfl
               have hcz39_4 : wc.cell? ⟨gb199, 4, none⟩ = some (.int .u64 z4_3) := (blk_cell BK199.out 4).trans rfl
               have hcz39_5 : wc.cell? ⟨gb199, 5, none⟩ = some (.int .u64 z5_3) := (blk_cell BK199.out 5).trans rfl
               have hfz39_0 := blk_frozen BK199.out 0
               have hfz39_1 := blk_frozen BK199.out 1
               have hfz39_2 := blk_frozen BK199.out 2
               have hfz39_3 := blk_frozen BK199.out 3
               have hfz39_4 := blk_frozen BK199.out 4
               have hfz39_5 := blk_frozen BK199.out 5
               go_wp2
               repeat (go_quiet (fail); try go_wp2)
               refine bodyPost_ret (results_list (rs := [.cell 2 23, .tmp 3, .tmp 4, .tmp 5]) rfl (by simp) (.cell gb199 23 #[.int .u64 t201, .int .u64 t202, .int .u64 t203, .int .u64 t204, .int .u64 t205, .int .u64 t206] (0, 0) _ rfl (by (with_reducible repeat (first | refine blk_drewN ?_ _ | refine blk_drew ?_ | refine blk_alloc ?_ _)); refine blk_put (cs := #[.int .u64 t201, .int .u64 t202, .int .u64 t203, .int .u64 t204, .int .u64 t205, .int .u64 z5_3]) ?_ 5 _ rfl; (with_reducible repeat (first | refine blk_drewN ?_ _ | refine blk_drew ?_ | refine blk_alloc ?_ _)); refine blk_put (cs := #[.int .u64 t201, .int .u64 t202, .int .u64 t203, .int .u64 t204, .int .u64 z4_3, .int .u64 z5_3]) ?_ 4 _ rfl; (with_reducible repeat (first | refine blk_drewN ?_ _ | refine blk_drew ?_ | refine blk_alloc ?_ _)); refine blk_put (cs := #[.int .u64 t201, .int .u64 t202, .int .u64 t203, .int .u64 z3_3, .int .u64 z4_3, .int .u64 z5_3]) ?_ 3 _ rfl; (with_reducible repeat (first | refine blk_drewN ?_ _ | refine blk_drew ?_ | refine blk_alloc ?_ _)); refine blk_put (cs := #[.int .u64 t201, .int .u64 t202, .int .u64 z2_3, .int .u64 z3_3, .int .u64 z4_3, .int .u64 z5_3]) ?_ 2 _ rfl; (with_reducible repeat (first | refine blk_drewN ?_ _ | refine blk_drew ?_ | refine blk_alloc ?_ _)); refine blk_put (cs := #[.int .u64 t201, .int .u64 z1_3, .int .u64 z2_3, .int .u64 z3_3, .int .u64 z4_3, .int .u64 z5_3]) ?_ 1 _ rfl; (with_reducible repeat (first | refine blk_drewN ?_ _ | refine blk_drew ?_ | refine blk_alloc ?_ _)); refine blk_put (cs := #[.int .u64 z0_3, .int .u64 z1_3, .int .u64 z2_3, .int .u64 z3_3, .int .u64 z4_3, .int .u64 z5_3]) ?_ 0 _ rfl; (with_reducible repeat (first | refine blk_drewN ?_ _ | refine blk_drew ?_ | refine blk_alloc ?_ _)); exact BK199.out) Tryd.underlying23 rfl (by kernel_rfl) (.tmp (.tmp (.tmp .nil))))) rfl ?_
               exact ⟨_, by first | rfl | (simp [errW_none, errW_some] <;> rfl) | (simp [*, errW_none, errW_some] <;> rfl), by (with_reducible repeat (first | apply Kd.R_alloc | apply Kd.R_drewN | apply Kd.R_drew)); exact Kd.R_mono (Kd.R_far (p := ⟨gb199, 5, none⟩) (Kd.R_far (p := ⟨gb199, 4, none⟩) (Kd.R_far (p := ⟨gb199, 3, none⟩) (Kd.R_far (p := ⟨gb199, 2, none⟩) (Kd.R_far (p := ⟨gb199, 1, none⟩) (Kd.R_far (p := ⟨gb199, 0, none⟩) (Kd.R_types HO_11.out BK199.out (by decide)) (fun _ hk => hk.2) (.int .u64 t201)) (fun _ hk => hk.2) (.int .u64 t202)) (fun _ hk => hk.2) (.int .u64 t203)) (fun _ hk => hk.2) (.int .u64 t204)) (fun _ hk => hk.2) (.int .u64 t205)) (fun _ hk => hk.2) (.int .u64 t206)) (fun _ hk => trivial), by repeat (first | (with_reducible first | exact HB.out | apply below_alloc | apply pw_below_drewN | apply below_drew1 | refine below_set ?_ GE199.out | refine below_set ?_ GE208.out) | exact HB.out)⟩
              ·replace c36 := Bool.eq_false_iff.mpr c36
               subst c36
               have H1 : (if 0 ≤ x10_3 then (if x10_3 ≤ (a0.size : Int) then ((logbookref32_item.f kj30 (a0.extract (x10_3 : Int).toNat a0.size)).bind fun bt210 => (if bt210.2 = true then (if (bt210.1.size : Int) > 1024 then (some (0, 0, 0, 0, 0, 0, ([] : List ByteArray), 0, false)) else (if (bt210.1.size : Int) > 1 then (if 0 ≤ 2 then (if 2 ≤ (bt210.1.size : Int) then (if (bt210.1.extract 0 2).toList = ([95, 95] : List UInt8) then (some (0, 0, 0, 0, 0, 0, ([] : List ByteArray), 0, false)) else (if x11_3.length < 8796093022208 then ((logbookref32_Item.f kj30 bt210.1).bind fun t215 => (logbookref32_Read.l0 kj30 a0 (wrap64 (x10_3 + (t215.size : Int))) (x11_3 ++ [bt210.1]) (wrap64 (x12_3 + 1)) t201 t202 t203 t204 t205 t206)) else (none))) else (none)) else (none)) else (if x11_3.length < 8796093022208 then ((logbookref32_Item.f kj30 bt210.1).bind fun t219 => (logbookref32_Read.l0 kj30 a0 (wrap64 (x10_3 + (t219.size : Int))) (x11_3 ++ [bt210.1]) (wrap64 (x12_3 + 1)) t201 t202 t203 t204 t205 t206)) else (none)))) else (some (0, 0, 0, 0, 0, 0, ([] : List ByteArray), 0, false)))) else (none)) else (none)) = some (r1, r2, r3, r4, r5, r6, r7, r8, r9) := by rw [if_neg (show ¬ (false = true) by decide)] at H; exact H
               clear H
               have H := H1
               clear H1
               by_cases c40 : 0 ≤ x10_3
               ·rw [if_pos c40] at H
                have c40b0 := eq_true c40
                have c40b1 : decide (0 ≤ x10_3) = true := decide_eq_true c40
                clear c40
                by_cases c41 : x10_3 ≤ (a0.size : Int)
                ·rw [if_pos c41] at H
                 have c41b0 := eq_true c41
                 have c41b1 : decide (x10_3 ≤ (a0.size : Int)) = true := decide_eq_true c41
                 clear c41
                 replace H := Option.bind_eq_some_iff.mp H
                 obtain ⟨⟨t210, t211⟩, A420, H⟩ := H
                 replace H : (if t211 = true then (if (t210.size : Int) > 1024 then (some (0, 0, 0, 0, 0, 0, ([] : List ByteArray), 0, false)) else (if (t210.size : Int) > 1 then (if 0 ≤ 2 then (if 2 ≤ (t210.size : Int) then (if (t210.extract 0 2).toList = ([95, 95] : List UInt8) then (some (0, 0, 0, 0, 0, 0, ([] : List ByteArray), 0, false)) else (if x11_3.length < 8796093022208 then ((logbookref32_Item.f kj30 t210).bind fun t215 => (logbookref32_Read.l0 kj30 a0 (wrap64 (x10_3 + (t215.size : Int))) (x11_3 ++ [t210]) (wrap64 (x12_3 + 1)) t201 t202 t203 t204 t205 t206)) else (none))) else (none)) else (none)) else (if x11_3.length < 8796093022208 then ((logbookref32_Item.f kj30 t210).bind fun t219 => (logbookref32_Read.l0 kj30 a0 (wrap64 (x10_3 + (t219.size : Int))) (x11_3 ++ [t210]) (wrap64 (x12_3 + 1)) t201 t202 t203 t204 t205 t206)) else (none)))) else (some (0, 0, 0, 0, 0, 0, ([] : List ByteArray), 0, false))) = some (r1, r2, r3, r4, r5, r6, r7, r8, r9) := H
                 have A42 := Aside0.mk A420
                 clear A420
                 by_cases c43 : t211 = true
                 ·subst c43
                  have H1 : (if (t210.size : Int) > 1024 then (some (0, 0, 0, 0, 0, 0, ([] : List ByteArray), 0, false)) else (if (t210.size : Int) > 1 then (if 0 ≤ 2 then (if 2 ≤ (t210.size : Int) then (if (t210.extract 0 2).toList = ([95, 95] : List UInt8) then (some (0, 0, 0, 0, 0, 0, ([] : List ByteArray), 0, false)) else (if x11_3.length < 8796093022208 then ((logbookref32_Item.f kj30 t210).bind fun t215 => (logbookref32_Read.l0 kj30 a0 (wrap64 (x10_3 + (t215.size : Int))) (x11_3 ++ [t210]) (wrap64 (x12_3 + 1)) t201 t202 t203 t204 t205 t206)) else (none))) else (none)) else (none)) else (if x11_3.length < 8796093022208 then ((logbookref32_Item.f kj30 t210).bind fun t219 => (logbookref32_Read.l0 kj30 a0 (wrap64 (x10_3 + (t219.size : Int))) (x11_3 ++ [t210]) (wrap64 (x12_3 + 1)) t201 t202 t203 t204 t205 t206)) else (none)))) = some (r1, r2, r3, r4, r5, r6, r7, r8, r9) := by rw [if_pos rfl] at H; exact H
                  clear H
                  have H := H1
                  clear H1
                  by_cases c44 : (t210.size : Int) > 1024
                  ·rw [if_pos c44] at H
                   have c44b0 : decide (1024 < (t210.size : Int)) = true := decide_eq_true c44
                   have c44b1 : decide (1024 < t210.size) = true := decide_eq_true (by omega)
                   clear c44
                   simp only [Option.some.injEq, Prod.mk.injEq] at H
                   obtain ⟨rfl, rfl, rfl, rfl, rfl, rfl, rfl, rfl, rfl⟩ := H
                   go_wp2_with (first | (go_at_call 40; (with_reducible refine (logbookref32_item.calls kj30 (a0.extract (x10_3 : Int).toNat a0.size) t210 true _ A42.out).mono ?_); rintro e w45 ⟨rfl, hb⟩; have n0_ := Aside0.mk (Kd.R_below (by (with_reducible repeat (first | apply Kd.R_alloc | apply Kd.R_drewN | apply Kd.R_drew)); exact HO_11.out) hb); have n1_ := Aside0.mk (blk_below (g := gb199) (o := .cells #[.int .u64 z0_3, .int .u64 z1_3, .int .u64 z2_3, .int .u64 z3_3, .int .u64 z4_3, .int .u64 z5_3] 23 (0, 0)) (by (with_reducible repeat (first | refine blk_drewN ?_ _ | refine blk_drew ?_ | refine blk_alloc ?_ _)); exact BK199.out) hb); have n2_ := Aside0.mk (blk_below (g := gb208) (o := .cells #[.int .u64 t201, .int .u64 t202, .int .u64 t203, .int .u64 t204, .int .u64 t205, .int .u64 t206] 23 (0, 0)) (by (with_reducible repeat (first | refine blk_drewN ?_ _ | refine blk_drew ?_ | refine blk_alloc ?_ _)); exact BK208.out) hb); have n3_ := Aside0.mk (below_step (by repeat (first | (with_reducible first | exact HB.out | apply below_alloc | apply pw_below_drewN | apply below_drew1 | refine below_set ?_ GE199.out | refine below_set ?_ GE208.out) | exact HB.out)) hb); clear HO_11; clear BK199; clear BK208; clear HB; have HO_11 := n0_; have BK199 := n1_; have BK208 := n2_; have HB := n3_; clear n0_ n1_ n2_ n3_; (try clear hb); (try clear hb2); (try clear hk); (try clear hi); have hnb46 := NB199_208.out; have hnc46 := NB208_199.out; have hcz47_0 : w45.cell? ⟨gb199, 0, none⟩ = some (.int .u64 z0_3) := (blk_cell BK199.out 0).trans rfl; have hcz47_1 : w45.cell? ⟨gb199, 1, none⟩ = some (.int .u64 z1_3) := (blk_cell BK199.out 1).trans rfl; have hcz47_2 : w45.cell? ⟨gb199, 2, none⟩ = some (.int .u64 z2_3) := (blk_cell BK199.out 2).trans rfl; have hcz47_3 : w45.cell? ⟨gb199, 3, none⟩ = some (.int .u64 z3_3) := (blk_cell BK199.out 3).trans rfl; have hcz47_4 : w45.cell? ⟨gb199, 4, none⟩ = some (.int .u64 z4_3) := (blk_cell BK199.out 4).trans rfl; have hcz47_5 : w45.cell? ⟨gb199, 5, none⟩ = some (.int .u64 z5_3) := (blk_cell BK199.out 5).trans rfl; have hfz47_0 := blk_frozen BK199.out 0; have hfz47_1 := blk_frozen BK199.out 1; have hfz47_2 := blk_frozen BK199.out 2; have hfz47_3 := blk_frozen BK199.out 3; have hfz47_4 := blk_frozen BK199.out 4; have hfz47_5 := blk_frozen BK199.out 5))
                   repeat (go_quiet (first | (go_at_call 40; (with_reducible refine (logbookref32_item.calls kj30 (a0.extract (x10_3 : Int).toNat a0.size) t210 true _ A42.out).mono ?_); rintro e w45 ⟨rfl, hb⟩; have n0_ := Aside0.mk (Kd.R_below (by (with_reducible repeat (first | apply Kd.R_alloc | apply Kd.R_drewN | apply Kd.R_drew)); exact HO_11.out) hb); have n1_ := Aside0.mk (blk_below (g := gb199) (o := .cells #[.int .u64 z0_3, .int .u64 z1_3, .int .u64 z2_3, .int .u64 z3_3, .int .u64 z4_3, .int .u64 z5_3] 23 (0, 0)) (by (with_reducible repeat (first | refine blk_drewN ?_ _ | refine blk_drew ?_ | refine blk_alloc ?_ _)); exact BK199.out) hb); have n2_ := Aside0.mk (blk_below (g := gb208) (o := .cells #[.int .u64 t201, .int .u64 t202, .int .u64 t203, .int .u64 t204, .int .u64 t205, .int .u64 t206] 23 (0, 0)) (by (with_reducible repeat (first | refine blk_drewN ?_ _ | refine blk_drew ?_ | refine blk_alloc ?_ _)); exact BK208.out) hb); have n3_ := Aside0.mk (below_step (by repeat (first | (with_reducible first | exact HB.out | apply below_alloc | apply pw_below_drewN | apply below_drew1 | refine below_set ?_ GE199.out | refine below_set ?_ GE208.out) | exact HB.out)) hb); clear HO_11; clear BK199; clear BK208; clear HB; have HO_11 := n0_; have BK199 := n1_; have BK208 := n2_; have HB := n3_; clear n0_ n1_ n2_ n3_; (try clear hb); (try clear hb2); (try clear hk); (try clear hi); have hnb46 := NB199_208.out; have hnc46 := NB208_199.out; have hcz47_0 : w45.cell? ⟨gb199, 0, none⟩ = some (.int .u64 z0_3) := (blk_cell BK199.out 0).trans rfl; have hcz47_1 : w45.cell? ⟨gb199, 1, none⟩ = some (.int .u64 z1_3) := (blk_cell BK199.out 1).trans rfl; have hcz47_2 : w45.cell? ⟨gb199, 2, none⟩ = some (.int .u64 z2_3) := (blk_cell BK199.out 2).trans rfl; have hcz47_3 : w45.cell? ⟨gb199, 3, none⟩ = some (.int .u64 z3_3) := (blk_cell BK199.out 3).trans rfl; have hcz47_4 : w45.cell? ⟨gb199, 4, none⟩ = some (.int .u64 z4_3) := (blk_cell BK199.out 4).trans rfl; have hcz47_5 : w45.cell? ⟨gb199, 5, none⟩ = some (.int .u64 z5_3) := (blk_cell BK199.out 5).trans rfl; have hfz47_0 := blk_frozen BK199.out 0; have hfz47_1 := blk_frozen BK199.out 1; have hfz47_2 := blk_frozen BK199.out 2; have hfz47_3 := blk_frozen BK199.out 3; have hfz47_4 := blk_frozen BK199.out 4; have hfz47_5 := blk_frozen BK199.out 5)); try go_wp2_with (first | (go_at_call 40; (with_reducible refine (logbookref32_item.calls kj30 (a0.extract (x10_3 : Int).toNat a0.size) t210 true _ A42.out).mono ?_); rintro e w45 ⟨rfl, hb⟩; have n0_ := Aside0.mk (Kd.R_below (by (with_reducible repeat (first | apply Kd.R_alloc | apply Kd.R_drewN | apply Kd.R_drew)); exact HO_11.out) hb); have n1_ := Aside0.mk (blk_below (g := gb199) (o := .cells #[.int .u64 z0_3, .int .u64 z1_3, .int .u64 z2_3, .int .u64 z3_3, .int .u64 z4_3, .int .u64 z5_3] 23 (0, 0)) (by (with_reducible repeat (first | refine blk_drewN ?_ _ | refine blk_drew ?_ | refine blk_alloc ?_ _)); exact BK199.out) hb); have n2_ := Aside0.mk (blk_below (g := gb208) (o := .cells #[.int .u64 t201, .int .u64 t202, .int .u64 t203, .int .u64 t204, .int .u64 t205, .int .u64 t206] 23 (0, 0)) (by (with_reducible repeat (first | refine blk_drewN ?_ _ | refine blk_drew ?_ | refine blk_alloc ?_ _)); exact BK208.out) hb); have n3_ := Aside0.mk (below_step (by repeat (first | (with_reducible first | exact HB.out | apply below_alloc | apply pw_below_drewN | apply below_drew1 | refine below_set ?_ GE199.out | refine below_set ?_ GE208.out) | exact HB.out)) hb); clear HO_11; clear BK199; clear BK208; clear HB; have HO_11 := n0_; have BK199 := n1_; have BK208 := n2_; have HB := n3_; clear n0_ n1_ n2_ n3_; (try clear hb); (try clear hb2); (try clear hk); (try clear hi); have hnb46 := NB199_208.out; have hnc46 := NB208_199.out; have hcz47_0 : w45.cell? ⟨gb199, 0, none⟩ = some (.int .u64 z0_3) := (blk_cell BK199.out 0).trans rfl; have hcz47_1 : w45.cell? ⟨gb199, 1, none⟩ = some (.int .u64 z1_3) := (blk_cell BK199.out 1).trans rfl; have hcz47_2 : w45.cell? ⟨gb199, 2, none⟩ = some (.int .u64 z2_3) := (blk_cell BK199.out 2).trans rfl; have hcz47_3 : w45.cell? ⟨gb199, 3, none⟩ = some (.int .u64 z3_3) := (blk_cell BK199.out 3).trans rfl; have hcz47_4 : w45.cell? ⟨gb199, 4, none⟩ = some (.int .u64 z4_3) := (blk_cell BK199.out 4).trans rfl; have hcz47_5 : w45.cell? ⟨gb199, 5, none⟩ = some (.int .u64 z5_3) := (blk_cell BK199.out 5).trans rfl; have hfz47_0 := blk_frozen BK199.out 0; have hfz47_1 := blk_frozen BK199.out 1; have hfz47_2 := blk_frozen BK199.out 2; have hfz47_3 := blk_frozen BK199.out 3; have hfz47_4 := blk_frozen BK199.out 4; have hfz47_5 := blk_frozen BK199.out 5)))
                   refine bodyPost_ret (results_list (rs := [.cell 2 23, .tmp 3, .tmp 4, .tmp 5]) rfl (by simp) (.cell gb199 23 #[.int .u64 0, .int .u64 0, .int .u64 0, .int .u64 0, .int .u64 0, .int .u64 0] (0, 0) _ rfl (by (with_reducible repeat (first | refine blk_drewN ?_ _ | refine blk_drew ?_ | refine blk_alloc ?_ _)); refine blk_put (cs := #[.int .u64 0, .int .u64 0, .int .u64 0, .int .u64 0, .int .u64 0, .int .u64 z5_3]) ?_ 5 _ rfl; (with_reducible repeat (first | refine blk_drewN ?_ _ | refine blk_drew ?_ | refine blk_alloc ?_ _)); refine blk_put (cs := #[.int .u64 0, .int .u64 0, .int .u64 0, .int .u64 0, .int .u64 z4_3, .int .u64 z5_3]) ?_ 4 _ rfl; (with_reducible repeat (first | refine blk_drewN ?_ _ | refine blk_drew ?_ | refine blk_alloc ?_ _)); refine blk_put (cs := #[.int .u64 0, .int .u64 0, .int .u64 0, .int .u64 z3_3, .int .u64 z4_3, .int .u64 z5_3]) ?_ 3 _ rfl; (with_reducible repeat (first | refine blk_drewN ?_ _ | refine blk_drew ?_ | refine blk_alloc ?_ _)); refine blk_put (cs := #[.int .u64 0, .int .u64 0, .int .u64 z2_3, .int .u64 z3_3, .int .u64 z4_3, .int .u64 z5_3]) ?_ 2 _ rfl; (with_reducible repeat (first | refine blk_drewN ?_ _ | refine blk_drew ?_ | refine blk_alloc ?_ _)); refine blk_put (cs := #[.int .u64 0, .int .u64 z1_3, .int .u64 z2_3, .int .u64 z3_3, .int .u64 z4_3, .int .u64 z5_3]) ?_ 1 _ rfl; (with_reducible repeat (first | refine blk_drewN ?_ _ | refine blk_drew ?_ | refine blk_alloc ?_ _)); refine blk_put (cs := #[.int .u64 z0_3, .int .u64 z1_3, .int .u64 z2_3, .int .u64 z3_3, .int .u64 z4_3, .int .u64 z5_3]) ?_ 0 _ rfl; (with_reducible repeat (first | refine blk_drewN ?_ _ | refine blk_drew ?_ | refine blk_alloc ?_ _)); exact BK199.out) Tryd.underlying23 rfl (by kernel_rfl) (.tmp (.tmp (.tmp .nil))))) rfl ?_
                   exact ⟨_, by first | rfl | (simp [errW_none, errW_some] <;> rfl) | (simp [*, errW_none, errW_some] <;> rfl), by first | exact Kd.R_nil _ _ _ _ _ | exact Kd.N_nil _ _ _ _ _ | exact Kd.V_nil _ _ _ _ _ | exact Kd.Q_nil _ _ _ _ _ | exact Kd.S_nil _ _ _ _ _, by repeat (first | (with_reducible first | exact HB.out | apply below_alloc | apply pw_below_drewN | apply below_drew1 | refine below_set ?_ GE199.out | refine below_set ?_ GE208.out) | exact HB.out)⟩
                  ·rw [if_neg c44] at H
                   have c44b0 : decide (1024 < (t210.size : Int)) = false := decide_eq_false c44
                   have c44b1 : decide (1024 < t210.size) = false := decide_eq_false (by omega)
                   clear c44
                   by_cases c48 : (t210.size : Int) > 1
                   ·rw [if_pos c48] at H
                    have c48b0 : decide (1 < (t210.size : Int)) = true := decide_eq_true c48
                    have c48b1 : decide (1 < t210.size) = true := decide_eq_true (by omega)
                    clear c48
                    by_cases c49 : 0 ≤ 2
                    ·rw [if_pos c49] at H
                     have c49b0 := eq_true c49
                     have c49b1 : decide (0 ≤ 2) = true := decide_eq_true c49
                     clear c49
                     by_cases c50 : 2 ≤ (t210.size : Int)
                     ·rw [if_pos c50] at H
                      have c50b0 := eq_true c50
                      have c50b1 : decide (2 ≤ (t210.size : Int)) = true := decide_eq_true c50
                      clear c50
                      by_cases c51 : (t210.extract 0 2).toList = ([95, 95] : List UInt8)
                      ·rw [if_pos c51] at H
                       have c51b0 : ((t210.extract 0 2).toList == ([95, 95] : List UInt8)) = true := beq_iff_eq.mpr c51
                       have c51b1 : ((t210.extract 0 2).toList != ([95, 95] : List UInt8)) = false := bne_eq_false_iff_eq.mpr c51
                       clear c51
                       simp only [Option.some.injEq, Prod.mk.injEq] at H
                       obtain ⟨rfl, rfl, rfl, rfl, rfl, rfl, rfl, rfl, rfl⟩ := H
                       go_wp2_with (first | (go_at_call 40; (with_reducible refine (logbookref32_item.calls kj30 (a0.extract (x10_3 : Int).toNat a0.size) t210 true _ A42.out).mono ?_); rintro e w52 ⟨rfl, hb⟩; have n0_ := Aside0.mk (Kd.R_below (by (with_reducible repeat (first | apply Kd.R_alloc | apply Kd.R_drewN | apply Kd.R_drew)); exact HO_11.out) hb); have n1_ := Aside0.mk (blk_below (g := gb199) (o := .cells #[.int .u64 z0_3, .int .u64 z1_3, .int .u64 z2_3, .int .u64 z3_3, .int .u64 z4_3, .int .u64 z5_3] 23 (0, 0)) (by (with_reducible repeat (first | refine blk_drewN ?_ _ | refine blk_drew ?_ | refine blk_alloc ?_ _)); exact BK199.out) hb); have n2_ := Aside0.mk (blk_below (g := gb208) (o := .cells #[.int .u64 t201, .int .u64 t202, .int .u64 t203, .int .u64 t204, .int .u64 t205, .int .u64 t206] 23 (0, 0)) (by (with_reducible repeat (first | refine blk_drewN ?_ _ | refine blk_drew ?_ | refine blk_alloc ?_ _)); exact BK208.out) hb); have n3_ := Aside0.mk (below_step (by repeat (first | (with_reducible first | exact HB.out | apply below_alloc | apply pw_below_drewN | apply below_drew1 | refine below_set ?_ GE199.out | refine below_set ?_ GE208.out) | exact HB.out)) hb); clear HO_11; clear BK199; clear BK208; clear HB; have HO_11 := n0_; have BK199 := n1_; have BK208 := n2_; have HB := n3_; clear n0_ n1_ n2_ n3_; (try clear hb); (try clear hb2); (try clear hk); (try clear hi); have hnb53 := NB199_208.out; have hnc53 := NB208_199.out; have hcz54_0 : w52.cell? ⟨gb199, 0, none⟩ = some (.int .u64 z0_3) := (blk_cell BK199.out 0).trans rfl; have hcz54_1 : w52.cell? ⟨gb199, 1, none⟩ = some (.int .u64 z1_3) := (blk_cell BK199.out 1).trans rfl; have hcz54_2 : w52.cell? ⟨gb199, 2, none⟩ = some (.int .u64 z2_3) := (blk_cell BK199.out 2).trans rfl; have hcz54_3 : w52.cell? ⟨gb199, 3, none⟩ = some (.int .u64 z3_3) := (blk_cell BK199.out 3).trans rfl; have hcz54_4 : w52.cell? ⟨gb199, 4, none⟩ = some (.int .u64 z4_3) := (blk_cell BK199.out 4).trans rfl; have hcz54_5 : w52.cell? ⟨gb199, 5, none⟩ = some (.int .u64 z5_3) := (blk_cell BK199.out 5).trans rfl; have hfz54_0 := blk_frozen BK199.out 0; have hfz54_1 := blk_frozen BK199.out 1; have hfz54_2 := blk_frozen BK199.out 2; have hfz54_3 := blk_frozen BK199.out 3; have hfz54_4 := blk_frozen BK199.out 4; have hfz54_5 := blk_frozen BK199.out 5))
                       repeat (go_quiet (first | (go_at_call 40; (with_reducible refine (logbookref32_item.calls kj30 (a0.extract (x10_3 : Int).toNat a0.size) t210 true _ A42.out).mono ?_); rintro e w52 ⟨rfl, hb⟩; have n0_ := Aside0.mk (Kd.R_below (by (with_reducible repeat (first | apply Kd.R_alloc | apply Kd.R_drewN | apply Kd.R_drew)); exact HO_11.out) hb); have n1_ := Aside0.mk (blk_below (g := gb199) (o := .cells #[.int .u64 z0_3, .int .u64 z1_3, .int .u64 z2_3, .int .u64 z3_3, .int .u64 z4_3, .int .u64 z5_3] 23 (0, 0)) (by (with_reducible repeat (first | refine blk_drewN ?_ _ | refine blk_drew ?_ | refine blk_alloc ?_ _)); exact BK199.out) hb); have n2_ := Aside0.mk (blk_below (g := gb208) (o := .cells #[.int .u64 t201, .int .u64 t202, .int .u64 t203, .int .u64 t204, .int .u64 t205, .int .u64 t206] 23 (0, 0)) (by (with_reducible repeat (first | refine blk_drewN ?_ _ | refine blk_drew ?_ | refine blk_alloc ?_ _)); exact BK208.out) hb); have n3_ := Aside0.mk (below_step (by repeat (first | (with_reducible first | exact HB.out | apply below_alloc | apply pw_below_drewN | apply below_drew1 | refine below_set ?_ GE199.out | refine below_set ?_ GE208.out) | exact HB.out)) hb); clear HO_11; clear BK199; clear BK208; clear HB; have HO_11 := n0_; have BK199 := n1_; have BK208 := n2_; have HB := n3_; clear n0_ n1_ n2_ n3_; (try clear hb); (try clear hb2); (try clear hk); (try clear hi); have hnb53 := NB199_208.out; have hnc53 := NB208_199.out; have hcz54_0 : w52.cell? ⟨gb199, 0, none⟩ = some (.int .u64 z0_3) := (blk_cell BK199.out 0).trans rfl; have hcz54_1 : w52.cell? ⟨gb199, 1, none⟩ = some (.int .u64 z1_3) := (blk_cell BK199.out 1).trans rfl; have hcz54_2 : w52.cell? ⟨gb199, 2, none⟩ = some (.int .u64 z2_3) := (blk_cell BK199.out 2).trans rfl; have hcz54_3 : w52.cell? ⟨gb199, 3, none⟩ = some (.int .u64 z3_3) := (blk_cell BK199.out 3).trans rfl; have hcz54_4 : w52.cell? ⟨gb199, 4, none⟩ = some (.int .u64 z4_3) := (blk_cell BK199.out 4).trans rfl; have hcz54_5 : w52.cell? ⟨gb199, 5, none⟩ = some (.int .u64 z5_3) := (blk_cell BK199.out 5).trans rfl; have hfz54_0 := blk_frozen BK199.out 0; have hfz54_1 := blk_frozen BK199.out 1; have hfz54_2 := blk_frozen BK199.out 2; have hfz54_3 := blk_frozen BK199.out 3; have hfz54_4 := blk_frozen BK199.out 4; have hfz54_5 := blk_frozen BK199.out 5)); try go_wp2_with (first | (go_at_call 40; (with_reducible refine (logbookref32_item.calls kj30 (a0.extract (x10_3 : Int).toNat a0.size) t210 true _ A42.out).mono ?_); rintro e w52 ⟨rfl, hb⟩; have n0_ := Aside0.mk (Kd.R_below (by (with_reducible repeat (first | apply Kd.R_alloc | apply Kd.R_drewN | apply Kd.R_drew)); exact HO_11.out) hb); have n1_ := Aside0.mk (blk_below (g := gb199) (o := .cells #[.int .u64 z0_3, .int .u64 z1_3, .int .u64 z2_3, .int .u64 z3_3, .int .u64 z4_3, .int .u64 z5_3] 23 (0, 0)) (by (with_reducible repeat (first | refine blk_drewN ?_ _ | refine blk_drew ?_ | refine blk_alloc ?_ _)); exact BK199.out) hb); have n2_ := Aside0.mk (blk_below (g := gb208) (o := .cells #[.int .u64 t201, .int .u64 t202, .int .u64 t203, .int .u64 t204, .int .u64 t205, .int .u64 t206] 23 (0, 0)) (by (with_reducible repeat (first | refine blk_drewN ?_ _ | refine blk_drew ?_ | refine blk_alloc ?_ _)); exact BK208.out) hb); have n3_ := Aside0.mk (below_step (by repeat (first | (with_reducible first | exact HB.out | apply below_alloc | apply pw_below_drewN | apply below_drew1 | refine below_set ?_ GE199.out | refine below_set ?_ GE208.out) | exact HB.out)) hb); clear HO_11; clear BK199; clear BK208; clear HB; have HO_11 := n0_; have BK199 := n1_; have BK208 := n2_; have HB := n3_; clear n0_ n1_ n2_ n3_; (try clear hb); (try clear hb2); (try clear hk); (try clear hi); have hnb53 := NB199_208.out; have hnc53 := NB208_199.out; have hcz54_0 : w52.cell? ⟨gb199, 0, none⟩ = some (.int .u64 z0_3) := (blk_cell BK199.out 0).trans rfl; have hcz54_1 : w52.cell? ⟨gb199, 1, none⟩ = some (.int .u64 z1_3) := (blk_cell BK199.out 1).trans rfl; have hcz54_2 : w52.cell? ⟨gb199, 2, none⟩ = some (.int .u64 z2_3) := (blk_cell BK199.out 2).trans rfl; have hcz54_3 : w52.cell? ⟨gb199, 3, none⟩ = some (.int .u64 z3_3) := (blk_cell BK199.out 3).trans rfl; have hcz54_4 : w52.cell? ⟨gb199, 4, none⟩ = some (.int .u64 z4_3) := (blk_cell BK199.out 4).trans rfl; have hcz54_5 : w52.cell? ⟨gb199, 5, none⟩ = some (.int .u64 z5_3) := (blk_cell BK199.out 5).trans rfl; have hfz54_0 := blk_frozen BK199.out 0; have hfz54_1 := blk_frozen BK199.out 1; have hfz54_2 := blk_frozen BK199.out 2; have hfz54_3 := blk_frozen BK199.out 3; have hfz54_4 := blk_frozen BK199.out 4; have hfz54_5 := blk_frozen BK199.out 5)))
                       refine bodyPost_ret (results_list (rs := [.cell 2 23, .tmp 3, .tmp 4, .tmp 5]) rfl (by simp) (.cell gb199 23 #[.int .u64 0, .int .u64 0, .int .u64 0, .int .u64 0, .int .u64 0, .int .u64 0] (0, 0) _ rfl (by (with_reducible repeat (first | refine blk_drewN ?_ _ | refine blk_drew ?_ | refine blk_alloc ?_ _)); refine blk_put (cs := #[.int .u64 0, .int .u64 0, .int .u64 0, .int .u64 0, .int .u64 0, .int .u64 z5_3]) ?_ 5 _ rfl; (with_reducible repeat (first | refine blk_drewN ?_ _ | refine blk_drew ?_ | refine blk_alloc ?_ _)); refine blk_put (cs := #[.int .u64 0, .int .u64 0, .int .u64 0, .int .u64 0, .int .u64 z4_3, .int .u64 z5_3]) ?_ 4 _ rfl; (with_reducible repeat (first | refine blk_drewN ?_ _ | refine blk_drew ?_ | refine blk_alloc ?_ _)); refine blk_put (cs := #[.int .u64 0, .int .u64 0, .int .u64 0, .int .u64 z3_3, .int .u64 z4_3, .int .u64 z5_3]) ?_ 3 _ rfl; (with_reducible repeat (first | refine blk_drewN ?_ _ | refine blk_drew ?_ | refine blk_alloc ?_ _)); refine blk_put (cs := #[.int .u64 0, .int .u64 0, .int .u64 z2_3, .int .u64 z3_3, .int .u64 z4_3, .int .u64 z5_3]) ?_ 2 _ rfl; (with_reducible repeat (first | refine blk_drewN ?_ _ | refine blk_drew ?_ | refine blk_alloc ?_ _)); refine blk_put (cs := #[.int .u64 0, .int .u64 z1_3, .int .u64 z2_3, .int .u64 z3_3, .int .u64 z4_3, .int .u64 z5_3]) ?_ 1 _ rfl; (with_reducible repeat (first | refine blk_drewN ?_ _ | refine blk_drew ?_ | refine blk_alloc ?_ _)); refine blk_put (cs := #[.int .u64 z0_3, .int .u64 z1_3, .int .u64 z2_3, .int .u64 z3_3, .int .u64 z4_3, .int .u64 z5_3]) ?_ 0 _ rfl; (with_reducible repeat (first | refine blk_drewN ?_ _ | refine blk_drew ?_ | refine blk_alloc ?_ _)); exact BK199.out) Tryd.underlying23 rfl (by kernel_rfl) (.tmp (.tmp (.tmp .nil))))) rfl ?_
                       exact ⟨_, by first | rfl | (simp [errW_none, errW_some] <;> rfl) | (simp [*, errW_none, errW_some] <;> rfl), by first | exact Kd.R_nil _ _ _ _ _ | exact Kd.N_nil _ _ _ _ _ | exact Kd.V_nil _ _ _ _ _ | exact Kd.Q_nil _ _ _ _ _ | exact Kd.S_nil _ _ _ _ _, by repeat (first | (with_reducible first | exact HB.out | apply below_alloc | apply pw_below_drewN | apply below_drew1 | refine below_set ?_ GE199.out | refine below_set ?_ GE208.out) | exact HB.out)⟩
                      ·rw [if_neg c51] at H
                       have c51b0 : ((t210.extract 0 2).toList == ([95, 95] : List UInt8)) = false := beq_eq_false_iff_ne.mpr c51
                       have c51b1 : ((t210.extract 0 2).toList != ([95, 95] : List UInt8)) = true := bne_iff_ne.mpr c51
                       by_cases c55 : x11_3.length < 8796093022208
                       ·rw [if_pos c55] at H
                        have LMc55 := Aside0.mk c55
                        clear c55
                        obtain ⟨y212, hy212⟩ : ∃ y_ : List ByteArray, y_ = (x11_3 ++ [t210]) := ⟨_, rfl⟩
                        replace H : ((logbookref32_Item.f kj30 t210).bind fun t215 => (logbookref32_Read.l0 kj30 a0 (wrap64 (x10_3 + (t215.size : Int))) y212 (wrap64 (x12_3 + 1)) t201 t202 t203 t204 t205 t206)) = some (r1, r2, r3, r4, r5, r6, r7, r8, r9) := by first | (rw [hy212]; with_reducible exact H) | (have H2_ := (Option.bind_some _ _).symm.trans H; rw [hy212]; with_reducible exact H2_) | (have H2_ := (Option.bind_some _ _).symm.trans H; with_reducible exact H2_) | with_reducible exact H | (rw [hy212]; exact H) | exact H
                        have Ny212 := Aside0.mk hy212
                        clear hy212
                        replace H := Option.bind_eq_some_iff.mp H
                        obtain ⟨t215, A560, H⟩ := H
                        replace H : (logbookref32_Read.l0 kj30 a0 (wrap64 (x10_3 + (t215.size : Int))) y212 (wrap64 (x12_3 + 1)) t201 t202 t203 t204 t205 t206) = some (r1, r2, r3, r4, r5, r6, r7, r8, r9) := H
                        have A56 := Aside0.mk A560
                        clear A560
                        have H' := Aside0.mk H
                        clear H
                        go_wp2_with (first | (go_at_call 40; (with_reducible refine (logbookref32_item.calls kj30 (a0.extract (x10_3 : Int).toNat a0.size) t210 true _ A42.out).mono ?_); rintro e w57 ⟨rfl, hb⟩; have n0_ := Aside0.mk (Kd.R_below (by (with_reducible repeat (first | apply Kd.R_alloc | apply Kd.R_drewN | apply Kd.R_drew)); exact HO_11.out) hb); have n1_ := Aside0.mk (blk_below (g := gb199) (o := .cells #[.int .u64 z0_3, .int .u64 z1_3, .int .u64 z2_3, .int .u64 z3_3, .int .u64 z4_3, .int .u64 z5_3] 23 (0, 0)) (by (with_reducible repeat (first | refine blk_drewN ?_ _ | refine blk_drew ?_ | refine blk_alloc ?_ _)); exact BK199.out) hb); have n2_ := Aside0.mk (blk_below (g := gb208) (o := .cells #[.int .u64 t201, .int .u64 t202, .int .u64 t203, .int .u64 t204, .int .u64 t205, .int .u64 t206] 23 (0, 0)) (by (with_reducible repeat (first | refine blk_drewN ?_ _ | refine blk_drew ?_ | refine blk_alloc ?_ _)); exact BK208.out) hb); have n3_ := Aside0.mk (below_step (by repeat (first | (with_reducible first | exact HB.out | apply below_alloc | apply pw_below_drewN | apply below_drew1 | refine below_set ?_ GE199.out | refine below_set ?_ GE208.out) | exact HB.out)) hb); clear HO_11; clear BK199; clear BK208; clear HB; have HO_11 := n0_; have BK199 := n1_; have BK208 := n2_; have HB := n3_; clear n0_ n1_ n2_ n3_; (try clear hb); (try clear hb2); (try clear hk); (try clear hi)) | ((with_reducible refine gate_builtin (b := .append) (xs := #[.tmp 102, .tmp 104]) rfl ?_); (try (refine gate_guard (by rfl) ?_; dsimp only)); at_builtin; refine Kd.R_append Kd.string (w0 := w) w.heap.size rfl (.tmp 102) (.tmp 104) 24 9 (.string ⟨#[]⟩) 16 rfl Tryd.underlying24 info9 rfl (by decide) (by omega) u11 x11_3 t210 [.string t210] (fun _ => True) (fun _ => False) rfl rfl ?aP (fun _ hk => hk.elim) ?aF ?aO ?aB ?aS ?aL ?_; (case aP => exact rfl); (case aB => exact (by repeat (first | (with_reducible first | exact HB.out | apply below_alloc | apply pw_below_drewN | apply below_drew1 | refine below_set ?_ GE199.out | refine below_set ?_ GE208.out) | exact HB.out))); (case aF => exact (fun _ _ => trivial)); (case aO => exact (by (with_reducible repeat (first | apply Kd.R_alloc | apply Kd.R_drewN | apply Kd.R_drew)); exact HO_11.out)); (case aS => exact (below_size (by repeat (first | (with_reducible first | exact HB.out | apply below_alloc | apply pw_below_drewN | apply below_drew1 | refine below_set ?_ GE199.out | refine below_set ?_ GE208.out) | exact HB.out)))); (case aL => have := LMc55.out; omega); intro v213 w58 ho hb hg hat; rw [← Ny212.out] at ho; have n0_ := Aside0.mk (blk_grown (g := gb199) (o := .cells #[.int .u64 z0_3, .int .u64 z1_3, .int .u64 z2_3, .int .u64 z3_3, .int .u64 z4_3, .int .u64 z5_3] 23 (0, 0)) (by (with_reducible repeat (first | refine blk_drewN ?_ _ | refine blk_drew ?_ | refine blk_alloc ?_ _)); exact BK199.out) hg (Kd.R_ne HO_11.out BK199.out (by decide))); have n1_ := Aside0.mk (blk_grown (g := gb208) (o := .cells #[.int .u64 t201, .int .u64 t202, .int .u64 t203, .int .u64 t204, .int .u64 t205, .int .u64 t206] 23 (0, 0)) (by (with_reducible repeat (first | refine blk_drewN ?_ _ | refine blk_drew ?_ | refine blk_alloc ?_ _)); exact BK208.out) hg (Kd.R_ne HO_11.out BK208.out (by decide))); have n2_ := Aside0.mk (hb); have n3_ := Aside0.mk (ho); clear BK199; clear BK208; clear HB; clear HO_11; have BK199 := n0_; have BK208 := n1_; have HB := n2_; have HO214 := n3_; clear n0_ n1_ n2_ n3_; clear ho hb hg hat) | (go_at_call 9; (with_reducible refine (logbookref32_Item.calls kj30 t210 t215 _ A56.out).mono ?_); rintro e w59 ⟨rfl, hb⟩; have n0_ := Aside0.mk (Kd.R_below (by (with_reducible repeat (first | apply Kd.R_alloc | apply Kd.R_drewN | apply Kd.R_drew)); exact HO214.out) hb); have n1_ := Aside0.mk (blk_below (g := gb199) (o := .cells #[.int .u64 z0_3, .int .u64 z1_3, .int .u64 z2_3, .int .u64 z3_3, .int .u64 z4_3, .int .u64 z5_3] 23 (0, 0)) (by (with_reducible repeat (first | refine blk_drewN ?_ _ | refine blk_drew ?_ | refine blk_alloc ?_ _)); exact BK199.out) hb); have n2_ := Aside0.mk (blk_below (g := gb208) (o := .cells #[.int .u64 t201, .int .u64 t202, .int .u64 t203, .int .u64 t204, .int .u64 t205, .int .u64 t206] 23 (0, 0)) (by (with_reducible repeat (first | refine blk_drewN ?_ _ | refine blk_drew ?_ | refine blk_alloc ?_ _)); exact BK208.out) hb); have n3_ := Aside0.mk (below_step (by repeat (first | (with_reducible first | exact HB.out | apply below_alloc | apply pw_below_drewN | apply below_drew1 | refine below_set ?_ GE199.out | refine below_set ?_ GE208.out) | exact HB.out)) hb); clear HO214; clear BK199; clear BK208; clear HB; have HO214 := n0_; have BK199 := n1_; have BK208 := n2_; have HB := n3_; clear n0_ n1_ n2_ n3_; (try clear hb); (try clear hb2); (try clear hk); (try clear hi)))
                        repeat (go_quiet (first | (go_at_call 40; (with_reducible refine (logbookref32_item.calls kj30 (a0.extract (x10_3 : Int).toNat a0.size) t210 true _ A42.out).mono ?_); rintro e w57 ⟨rfl, hb⟩; have n0_ := Aside0.mk (Kd.R_below (by (with_reducible repeat (first | apply Kd.R_alloc | apply Kd.R_drewN | apply Kd.R_drew)); exact HO_11.out) hb); have n1_ := Aside0.mk (blk_below (g := gb199) (o := .cells #[.int .u64 z0_3, .int .u64 z1_3, .int .u64 z2_3, .int .u64 z3_3, .int .u64 z4_3, .int .u64 z5_3] 23 (0, 0)) (by (with_reducible repeat (first | refine blk_drewN ?_ _ | refine blk_drew ?_ | refine blk_alloc ?_ _)); exact BK199.out) hb); have n2_ := Aside0.mk (blk_below (g := gb208) (o := .cells #[.int .u64 t201, .int .u64 t202, .int .u64 t203, .int .u64 t204, .int .u64 t205, .int .u64 t206] 23 (0, 0)) (by (with_reducible repeat (first | refine blk_drewN ?_ _ | refine blk_drew ?_ | refine blk_alloc ?_ _)); exact BK208.out) hb); have n3_ := Aside0.mk (below_step (by repeat (first | (with_reducible first | exact HB.out | apply below_alloc | apply pw_below_drewN | apply below_drew1 | refine below_set ?_ GE199.out | refine below_set ?_ GE208.out) | exact HB.out)) hb); clear HO_11; clear BK199; clear BK208; clear HB; have HO_11 := n0_; have BK199 := n1_; have BK208 := n2_; have HB := n3_; clear n0_ n1_ n2_ n3_; (try clear hb); (try clear hb2); (try clear hk); (try clear hi)) | ((with_reducible refine gate_builtin (b := .append) (xs := #[.tmp 102, .tmp 104]) rfl ?_); (try (refine gate_guard (by rfl) ?_; dsimp only)); at_builtin; refine Kd.R_append Kd.string (w0 := w) w.heap.size rfl (.tmp 102) (.tmp 104) 24 9 (.string ⟨#[]⟩) 16 rfl Tryd.underlying24 info9 rfl (by decide) (by omega) u11 x11_3 t210 [.string t210] (fun _ => True) (fun _ => False) rfl rfl ?aP (fun _ hk => hk.elim) ?aF ?aO ?aB ?aS ?aL ?_; (case aP => exact rfl); (case aB => exact (by repeat (first | (with_reducible first | exact HB.out | apply below_alloc | apply pw_below_drewN | apply below_drew1 | refine below_set ?_ GE199.out | refine below_set ?_ GE208.out) | exact HB.out))); (case aF => exact (fun _ _ => trivial)); (case aO => exact (by (with_reducible repeat (first | apply Kd.R_alloc | apply Kd.R_drewN | apply Kd.R_drew)); exact HO_11.out)); (case aS => exact (below_size (by repeat (first | (with_reducible first | exact HB.out | apply below_alloc | apply pw_below_drewN | apply below_drew1 | refine below_set ?_ GE199.out | refine below_set ?_ GE208.out) | exact HB.out)))); (case aL => have := LMc55.out; omega); intro v213 w58 ho hb hg hat; rw [← Ny212.out] at ho; have n0_ := Aside0.mk (blk_grown (g := gb199) (o := .cells #[.int .u64 z0_3, .int .u64 z1_3, .int .u64 z2_3, .int .u64 z3_3, .int .u64 z4_3, .int .u64 z5_3] 23 (0, 0)) (by (with_reducible repeat (first | refine blk_drewN ?_ _ | refine blk_drew ?_ | refine blk_alloc ?_ _)); exact BK199.out) hg (Kd.R_ne HO_11.out BK199.out (by decide))); have n1_ := Aside0.mk (blk_grown (g := gb208) (o := .cells #[.int .u64 t201, .int .u64 t202, .int .u64 t203, .int .u64 t204, .int .u64 t205, .int .u64 t206] 23 (0, 0)) (by (with_reducible repeat (first | refine blk_drewN ?_ _ | refine blk_drew ?_ | refine blk_alloc ?_ _)); exact BK208.out) hg (Kd.R_ne HO_11.out BK208.out (by decide))); have n2_ := Aside0.mk (hb); have n3_ := Aside0.mk (ho); clear BK199; clear BK208; clear HB; clear HO_11; have BK199 := n0_; have BK208 := n1_; have HB := n2_; have HO214 := n3_; clear n0_ n1_ n2_ n3_; clear ho hb hg hat) | (go_at_call 9; (with_reducible refine (logbookref32_Item.calls kj30 t210 t215 _ A56.out).mono ?_); rintro e w59 ⟨rfl, hb⟩; have n0_ := Aside0.mk (Kd.R_below (by (with_reducible repeat (first | apply Kd.R_alloc | apply Kd.R_drewN | apply Kd.R_drew)); exact HO214.out) hb); have n1_ := Aside0.mk (blk_below (g := gb199) (o := .cells #[.int .u64 z0_3, .int .u64 z1_3, .int .u64 z2_3, .int .u64 z3_3, .int .u64 z4_3, .int .u64 z5_3] 23 (0, 0)) (by (with_reducible repeat (first | refine blk_drewN ?_ _ | refine blk_drew ?_ | refine blk_alloc ?_ _)); exact BK199.out) hb); have n2_ := Aside0.mk (blk_below (g := gb208) (o := .cells #[.int .u64 t201, .int .u64 t202, .int .u64 t203, .int .u64 t204, .int .u64 t205, .int .u64 t206] 23 (0, 0)) (by (with_reducible repeat (first | refine blk_drewN ?_ _ | refine blk_drew ?_ | refine blk_alloc ?_ _)); exact BK208.out) hb); have n3_ := Aside0.mk (below_step (by repeat (first | (with_reducible first | exact HB.out | apply below_alloc | apply pw_below_drewN | apply below_drew1 | refine below_set ?_ GE199.out | refine below_set ?_ GE208.out) | exact HB.out)) hb); clear HO214; clear BK199; clear BK208; clear HB; have HO214 := n0_; have BK199 := n1_; have BK208 := n2_; have HB := n3_; clear n0_ n1_ n2_ n3_; (try clear hb); (try clear hb2); (try clear hk); (try clear hi))); try go_wp2_with (first | (go_at_call 40; (with_reducible refine (logbookref32_item.calls kj30 (a0.extract (x10_3 : Int).toNat a0.size) t210 true _ A42.out).mono ?_); rintro e w57 ⟨rfl, hb⟩; have n0_ := Aside0.mk (Kd.R_below (by (with_reducible repeat (first | apply Kd.R_alloc | apply Kd.R_drewN | apply Kd.R_drew)); exact HO_11.out) hb); have n1_ := Aside0.mk (blk_below (g := gb199) (o := .cells #[.int .u64 z0_3, .int .u64 z1_3, .int .u64 z2_3, .int .u64 z3_3, .int .u64 z4_3, .int .u64 z5_3] 23 (0, 0)) (by (with_reducible repeat (first | refine blk_drewN ?_ _ | refine blk_drew ?_ | refine blk_alloc ?_ _)); exact BK199.out) hb); have n2_ := Aside0.mk (blk_below (g := gb208) (o := .cells #[.int .u64 t201, .int .u64 t202, .int .u64 t203, .int .u64 t204, .int .u64 t205, .int .u64 t206] 23 (0, 0)) (by (with_reducible repeat (first | refine blk_drewN ?_ _ | refine blk_drew ?_ | refine blk_alloc ?_ _)); exact BK208.out) hb); have n3_ := Aside0.mk (below_step (by repeat (first | (with_reducible first | exact HB.out | apply below_alloc | apply pw_below_drewN | apply below_drew1 | refine below_set ?_ GE199.out | refine below_set ?_ GE208.out) | exact HB.out)) hb); clear HO_11; clear BK199; clear BK208; clear HB; have HO_11 := n0_; have BK199 := n1_; have BK208 := n2_; have HB := n3_; clear n0_ n1_ n2_ n3_; (try clear hb); (try clear hb2); (try clear hk); (try clear hi)) | ((with_reducible refine gate_builtin (b := .append) (xs := #[.tmp 102, .tmp 104]) rfl ?_); (try (refine gate_guard (by rfl) ?_; dsimp only)); at_builtin; refine Kd.R_append Kd.string (w0 := w) w.heap.size rfl (.tmp 102) (.tmp 104) 24 9 (.string ⟨#[]⟩) 16 rfl Tryd.underlying24 info9 rfl (by decide) (by omega) u11 x11_3 t210 [.string t210] (fun _ => True) (fun _ => False) rfl rfl ?aP (fun _ hk => hk.elim) ?aF ?aO ?aB ?aS ?aL ?_; (case aP => exact rfl); (case aB => exact (by repeat (first | (with_reducible first | exact HB.out | apply below_alloc | apply pw_below_drewN | apply below_drew1 | refine below_set ?_ GE199.out | refine below_set ?_ GE208.out) | exact HB.out))); (case aF => exact (fun _ _ => trivial)); (case aO => exact (by (with_reducible repeat (first | apply Kd.R_alloc | apply Kd.R_drewN | apply Kd.R_drew)); exact HO_11.out)); (case aS => exact (below_size (by repeat (first | (with_reducible first | exact HB.out | apply below_alloc | apply pw_below_drewN | apply below_drew1 | refine below_set ?_ GE199.out | refine below_set ?_ GE208.out) | exact HB.out)))); (case aL => have := LMc55.out; omega); intro v213 w58 ho hb hg hat; rw [← Ny212.out] at ho; have n0_ := Aside0.mk (blk_grown (g := gb199) (o := .cells #[.int .u64 z0_3, .int .u64 z1_3, .int .u64 z2_3, .int .u64 z3_3, .int .u64 z4_3, .int .u64 z5_3] 23 (0, 0)) (by (with_reducible repeat (first | refine blk_drewN ?_ _ | refine blk_drew ?_ | refine blk_alloc ?_ _)); exact BK199.out) hg (Kd.R_ne HO_11.out BK199.out (by decide))); have n1_ := Aside0.mk (blk_grown (g := gb208) (o := .cells #[.int .u64 t201, .int .u64 t202, .int .u64 t203, .int .u64 t204, .int .u64 t205, .int .u64 t206] 23 (0, 0)) (by (with_reducible repeat (first | refine blk_drewN ?_ _ | refine blk_drew ?_ | refine blk_alloc ?_ _)); exact BK208.out) hg (Kd.R_ne HO_11.out BK208.out (by decide))); have n2_ := Aside0.mk (hb); have n3_ := Aside0.mk (ho); clear BK199; clear BK208; clear HB; clear HO_11; have BK199 := n0_; have BK208 := n1_; have HB := n2_; have HO214 := n3_; clear n0_ n1_ n2_ n3_; clear ho hb hg hat) | (go_at_call 9; (with_reducible refine (logbookref32_Item.calls kj30 t210 t215 _ A56.out).mono ?_); rintro e w59 ⟨rfl, hb⟩; have n0_ := Aside0.mk (Kd.R_below (by (with_reducible repeat (first | apply Kd.R_alloc | apply Kd.R_drewN | apply Kd.R_drew)); exact HO214.out) hb); have n1_ := Aside0.mk (blk_below (g := gb199) (o := .cells #[.int .u64 z0_3, .int .u64 z1_3, .int .u64 z2_3, .int .u64 z3_3, .int .u64 z4_3, .int .u64 z5_3] 23 (0, 0)) (by (with_reducible repeat (first | refine blk_drewN ?_ _ | refine blk_drew ?_ | refine blk_alloc ?_ _)); exact BK199.out) hb); have n2_ := Aside0.mk (blk_below (g := gb208) (o := .cells #[.int .u64 t201, .int .u64 t202, .int .u64 t203, .int .u64 t204, .int .u64 t205, .int .u64 t206] 23 (0, 0)) (by (with_reducible repeat (first | refine blk_drewN ?_ _ | refine blk_drew ?_ | refine blk_alloc ?_ _)); exact BK208.out) hb); have n3_ := Aside0.mk (below_step (by repeat (first | (with_reducible first | exact HB.out | apply below_alloc | apply pw_below_drewN | apply below_drew1 | refine below_set ?_ GE199.out | refine below_set ?_ GE208.out) | exact HB.out)) hb); clear HO214; clear BK199; clear BK208; clear HB; have HO214 := n0_; have BK199 := n1_; have BK208 := n2_; have HB := n3_; clear n0_ n1_ n2_ n3_; (try clear hb); (try clear hb2); (try clear hk); (try clear hi))))
                        go_roundg kj30
                        case measure => have := HJ2.out; have := HJ13.out; have := HK3.out; have := HJ30.out; omega
                        case rel => exact ⟨(wrap64 (x10_3 + (t215.size : Int))), (y212), (wrap64 (x12_3 + 1)), (z0_3), (z1_3), (z2_3), (z3_3), (z4_3), (z5_3), (by first | rfl | (simp; done) | (simp [*]; done) | exact isEmpty_bne _), (by first | rfl | (simp; done) | (simp [*]; done) | exact isEmpty_bne _), H', ⟨by have := HJ2.out; have := HJ13.out; have := HK3.out; have := HJ30.out; omega⟩, ⟨by (with_reducible repeat (first | apply Kd.R_alloc | apply Kd.R_drewN | apply Kd.R_drew)); exact HO214.out⟩, ⟨by (with_reducible repeat (first | refine blk_drewN ?_ _ | refine blk_drew ?_ | refine blk_alloc ?_ _)); exact BK199.out⟩, ⟨by (with_reducible repeat (first | refine blk_drewN ?_ _ | refine blk_drew ?_ | refine blk_alloc ?_ _)); exact BK208.out⟩, ⟨by repeat (first | (with_reducible first | exact HB.out | apply below_alloc | apply pw_below_drewN | apply below_drew1 | refine below_set ?_ GE199.out | refine below_set ?_ GE208.out) | exact HB.out)⟩⟩
                       ·rw [if_neg c55] at H
                        exact absurd H (by simp)
                     ·rw [if_neg c50] at H
                      exact absurd H (by simp)
                    ·rw [if_neg c49] at H
                     exact absurd H (by simp)
                   ·rw [if_neg c48] at H
                    have c48b0 : decide (1 < (t210.size : Int)) = false := decide_eq_false c48
                    have c48b1 : decide (1 < t210.size) = false := decide_eq_false (by omega)
                    clear c48
                    by_cases c60 : x11_3.length < 8796093022208
                    ·rw [if_pos c60] at H
                     have LMc60 := Aside0.mk c60
                     clear c60
                     obtain ⟨y216, hy216⟩ : ∃ y_ : List ByteArray, y_ = (x11_3 ++ [t210]) := ⟨_, rfl⟩
                     replace H : ((logbookref32_Item.f kj30 t210).bind fun t219 => (logbookref32_Read.l0 kj30 a0 (wrap64 (x10_3 + (t219.size : Int))) y216 (wrap64 (x12_3 + 1)) t201 t202 t203 t204 t205 t206)) = some (r1, r2, r3, r4, r5, r6, r7, r8, r9) := by first | (rw [hy216]; with_reducible exact H) | (have H2_ := (Option.bind_some _ _).symm.trans H; rw [hy216]; with_reducible exact H2_) | (have H2_ := (Option.bind_some _ _).symm.trans H; with_reducible exact H2_) | with_reducible exact H | (rw [hy216]; exact H) | exact H
                     have Ny216 := Aside0.mk hy216
                     clear hy216
                     replace H := Option.bind_eq_some_iff.mp H
                     obtain ⟨t219, A610, H⟩ := H
                     replace H : (logbookref32_Read.l0 kj30 a0 (wrap64 (x10_3 + (t219.size : Int))) y216 (wrap64 (x12_3 + 1)) t201 t202 t203 t204 t205 t206) = some (r1, r2, r3, r4, r5, r6, r7, r8, r9) := H
                     have A61 := Aside0.mk A610
                     clear A610
                     have H' := Aside0.mk H
                     clear H
                     go_wp2_with (first | (go_at_call 40; (with_reducible refine (logbookref32_item.calls kj30 (a0.extract (x10_3 : Int).toNat a0.size) t210 true _ A42.out).mono ?_); rintro e w62 ⟨rfl, hb⟩; have n0_ := Aside0.mk (Kd.R_below (by (with_reducible repeat (first | apply Kd.R_alloc | apply Kd.R_drewN | apply Kd.R_drew)); exact HO_11.out) hb); have n1_ := Aside0.mk (blk_below (g := gb199) (o := .cells #[.int .u64 z0_3, .int .u64 z1_3, .int .u64 z2_3, .int .u64 z3_3, .int .u64 z4_3, .int .u64 z5_3] 23 (0, 0)) (by (with_reducible repeat (first | refine blk_drewN ?_ _ | refine blk_drew ?_ | refine blk_alloc ?_ _)); exact BK199.out) hb); have n2_ := Aside0.mk (blk_below (g := gb208) (o := .cells #[.int .u64 t201, .int .u64 t202, .int .u64 t203, .int .u64 t204, .int .u64 t205, .int .u64 t206] 23 (0, 0)) (by (with_reducible repeat (first | refine blk_drewN ?_ _ | refine blk_drew ?_ | refine blk_alloc ?_ _)); exact BK208.out) hb); have n3_ := Aside0.mk (below_step (by repeat (first | (with_reducible first | exact HB.out | apply below_alloc | apply pw_below_drewN | apply below_drew1 | refine below_set ?_ GE199.out | refine below_set ?_ GE208.out) | exact HB.out)) hb); clear HO_11; clear BK199; clear BK208; clear HB; have HO_11 := n0_; have BK199 := n1_; have BK208 := n2_; have HB := n3_; clear n0_ n1_ n2_ n3_; (try clear hb); (try clear hb2); (try clear hk); (try clear hi)) | ((with_reducible refine gate_builtin (b := .append) (xs := #[.tmp 102, .tmp 104]) rfl ?_); (try (refine gate_guard (by rfl) ?_; dsimp only)); at_builtin; refine Kd.R_append Kd.string (w0 := w) w.heap.size rfl (.tmp 102) (.tmp 104) 24 9 (.string ⟨#[]⟩) 16 rfl Tryd.underlying24 info9 rfl (by decide) (by omega) u11 x11_3 t210 [.string t210] (fun _ => True) (fun _ => False) rfl rfl ?aP (fun _ hk => hk.elim) ?aF ?aO ?aB ?aS ?aL ?_; (case aP => exact rfl); (case aB => exact (by repeat (first | (with_reducible first | exact HB.out | apply below_alloc | apply pw_below_drewN | apply below_drew1 | refine below_set ?_ GE199.out | refine below_set ?_ GE208.out) | exact HB.out))); (case aF => exact (fun _ _ => trivial)); (case aO => exact (by (with_reducible repeat (first | apply Kd.R_alloc | apply Kd.R_drewN | apply Kd.R_drew)); exact HO_11.out)); (case aS => exact (below_size (by repeat (first | (with_reducible first | exact HB.out | apply below_alloc | apply pw_below_drewN | apply below_drew1 | refine below_set ?_ GE199.out | refine below_set ?_ GE208.out) | exact HB.out)))); (case aL => have := LMc60.out; omega); intro v217 w63 ho hb hg hat; rw [← Ny216.out] at ho; have n0_ := Aside0.mk (blk_grown (g := gb199) (o := .cells #[.int .u64 z0_3, .int .u64 z1_3, .int .u64 z2_3, .int .u64 z3_3, .int .u64 z4_3, .int .u64 z5_3] 23 (0, 0)) (by (with_reducible repeat (first | refine blk_drewN ?_ _ | refine blk_drew ?_ | refine blk_alloc ?_ _)); exact BK199.out) hg (Kd.R_ne HO_11.out BK199.out (by decide))); have n1_ := Aside0.mk (blk_grown (g := gb208) (o := .cells #[.int .u64 t201, .int .u64 t202, .int .u64 t203, .int .u64 t204, .int .u64 t205, .int .u64 t206] 23 (0, 0)) (by (with_reducible repeat (first | refine blk_drewN ?_ _ | refine blk_drew ?_ | refine blk_alloc ?_ _)); exact BK208.out) hg (Kd.R_ne HO_11.out BK208.out (by decide))); have n2_ := Aside0.mk (hb); have n3_ := Aside0.mk (ho); clear BK199; clear BK208; clear HB; clear HO_11; have BK199 := n0_; have BK208 := n1_; have HB := n2_; have HO218 := n3_; clear n0_ n1_ n2_ n3_; clear ho hb hg hat) | (go_at_call 9; (with_reducible refine (logbookref32_Item.calls kj30 t210 t219 _ A61.out).mono ?_); rintro e w64 ⟨rfl, hb⟩; have n0_ := Aside0.mk (Kd.R_below (by (with_reducible repeat (first | apply Kd.R_alloc | apply Kd.R_drewN | apply Kd.R_drew)); exact HO218.out) hb); have n1_ := Aside0.mk (blk_below (g := gb199) (o := .cells #[.int .u64 z0_3, .int .u64 z1_3, .int .u64 z2_3, .int .u64 z3_3, .int .u64 z4_3, .int .u64 z5_3] 23 (0, 0)) (by (with_reducible repeat (first | refine blk_drewN ?_ _ | refine blk_drew ?_ | refine blk_alloc ?_ _)); exact BK199.out) hb); have n2_ := Aside0.mk (blk_below (g := gb208) (o := .cells #[.int .u64 t201, .int .u64 t202, .int .u64 t203, .int .u64 t204, .int .u64 t205, .int .u64 t206] 23 (0, 0)) (by (with_reducible repeat (first | refine blk_drewN ?_ _ | refine blk_drew ?_ | refine blk_alloc ?_ _)); exact BK208.out) hb); have n3_ := Aside0.mk (below_step (by repeat (first | (with_reducible first | exact HB.out | apply below_alloc | apply pw_below_drewN | apply below_drew1 | refine below_set ?_ GE199.out | refine below_set ?_ GE208.out) | exact HB.out)) hb); clear HO218; clear BK199; clear BK208; clear HB; have HO218 := n0_; have BK199 := n1_; have BK208 := n2_; have HB := n3_; clear n0_ n1_ n2_ n3_; (try clear hb); (try clear hb2); (try clear hk); (try clear hi)))
                     repeat (go_quiet (first | (go_at_call 40; (with_reducible refine (logbookref32_item.calls kj30 (a0.extract (x10_3 : Int).toNat a0.size) t210 true _ A42.out).mono ?_); rintro e w62 ⟨rfl, hb⟩; have n0_ := Aside0.mk (Kd.R_below (by (with_reducible repeat (first | apply Kd.R_alloc | apply Kd.R_drewN | apply Kd.R_drew)); exact HO_11.out) hb); have n1_ := Aside0.mk (blk_below (g := gb199) (o := .cells #[.int .u64 z0_3, .int .u64 z1_3, .int .u64 z2_3, .int .u64 z3_3, .int .u64 z4_3, .int .u64 z5_3] 23 (0, 0)) (by (with_reducible repeat (first | refine blk_drewN ?_ _ | refine blk_drew ?_ | refine blk_alloc ?_ _)); exact BK199.out) hb); have n2_ := Aside0.mk (blk_below (g := gb208) (o := .cells #[.int .u64 t201, .int .u64 t202, .int .u64 t203, .int .u64 t204, .int .u64 t205, .int .u64 t206] 23 (0, 0)) (by (with_reducible repeat (first | refine blk_drewN ?_ _ | refine blk_drew ?_ | refine blk_alloc ?_ _)); exact BK208.out) hb); have n3_ := Aside0.mk (below_step (by repeat (first | (with_reducible first | exact HB.out | apply below_alloc | apply pw_below_drewN | apply below_drew1 | refine below_set ?_ GE199.out | refine below_set ?_ GE208.out) | exact HB.out)) hb); clear HO_11; clear BK199; clear BK208; clear HB; have HO_11 := n0_; have BK199 := n1_; have BK208 := n2_; have HB := n3_; clear n0_ n1_ n2_ n3_; (try clear hb); (try clear hb2); (try clear hk); (try clear hi)) | ((with_reducible refine gate_builtin (b := .append) (xs := #[.tmp 102, .tmp 104]) rfl ?_); (try (refine gate_guard (by rfl) ?_; dsimp only)); at_builtin; refine Kd.R_append Kd.string (w0 := w) w.heap.size rfl (.tmp 102) (.tmp 104) 24 9 (.string ⟨#[]⟩) 16 rfl Tryd.underlying24 info9 rfl (by decide) (by omega) u11 x11_3 t210 [.string t210] (fun _ => True) (fun _ => False) rfl rfl ?aP (fun _ hk => hk.elim) ?aF ?aO ?aB ?aS ?aL ?_; (case aP => exact rfl); (case aB => exact (by repeat (first | (with_reducible first | exact HB.out | apply below_alloc | apply pw_below_drewN | apply below_drew1 | refine below_set ?_ GE199.out | refine below_set ?_ GE208.out) | exact HB.out))); (case aF => exact (fun _ _ => trivial)); (case aO => exact (by (with_reducible repeat (first | apply Kd.R_alloc | apply Kd.R_drewN | apply Kd.R_drew)); exact HO_11.out)); (case aS => exact (below_size (by repeat (first | (with_reducible first | exact HB.out | apply below_alloc | apply pw_below_drewN | apply below_drew1 | refine below_set ?_ GE199.out | refine below_set ?_ GE208.out) | exact HB.out)))); (case aL => have := LMc60.out; omega); intro v217 w63 ho hb hg hat; rw [← Ny216.out] at ho; have n0_ := Aside0.mk (blk_grown (g := gb199) (o := .cells #[.int .u64 z0_3, .int .u64 z1_3, .int .u64 z2_3, .int .u64 z3_3, .int .u64 z4_3, .int .u64 z5_3] 23 (0, 0)) (by (with_reducible repeat (first | refine blk_drewN ?_ _ | refine blk_drew ?_ | refine blk_alloc ?_ _)); exact BK199.out) hg (Kd.R_ne HO_11.out BK199.out (by decide))); have n1_ := Aside0.mk (blk_grown (g := gb208) (o := .cells #[.int .u64 t201, .int .u64 t202, .int .u64 t203, .int .u64 t204, .int .u64 t205, .int .u64 t206] 23 (0, 0)) (by (with_reducible repeat (first | refine blk_drewN ?_ _ | refine blk_drew ?_ | refine blk_alloc ?_ _)); exact BK208.out) hg (Kd.R_ne HO_11.out BK208.out (by decide))); have n2_ := Aside0.mk (hb); have n3_ := Aside0.mk (ho); clear BK199; clear BK208; clear HB; clear HO_11; have BK199 := n0_; have BK208 := n1_; have HB := n2_; have HO218 := n3_; clear n0_ n1_ n2_ n3_; clear ho hb hg hat) | (go_at_call 9; (with_reducible refine (logbookref32_Item.calls kj30 t210 t219 _ A61.out).mono ?_); rintro e w64 ⟨rfl, hb⟩; have n0_ := Aside0.mk (Kd.R_below (by (with_reducible repeat (first | apply Kd.R_alloc | apply Kd.R_drewN | apply Kd.R_drew)); exact HO218.out) hb); have n1_ := Aside0.mk (blk_below (g := gb199) (o := .cells #[.int .u64 z0_3, .int .u64 z1_3, .int .u64 z2_3, .int .u64 z3_3, .int .u64 z4_3, .int .u64 z5_3] 23 (0, 0)) (by (with_reducible repeat (first | refine blk_drewN ?_ _ | refine blk_drew ?_ | refine blk_alloc ?_ _)); exact BK199.out) hb); have n2_ := Aside0.mk (blk_below (g := gb208) (o := .cells #[.int .u64 t201, .int .u64 t202, .int .u64 t203, .int .u64 t204, .int .u64 t205, .int .u64 t206] 23 (0, 0)) (by (with_reducible repeat (first | refine blk_drewN ?_ _ | refine blk_drew ?_ | refine blk_alloc ?_ _)); exact BK208.out) hb); have n3_ := Aside0.mk (below_step (by repeat (first | (with_reducible first | exact HB.out | apply below_alloc | apply pw_below_drewN | apply below_drew1 | refine below_set ?_ GE199.out | refine below_set ?_ GE208.out) | exact HB.out)) hb); clear HO218; clear BK199; clear BK208; clear HB; have HO218 := n0_; have BK199 := n1_; have BK208 := n2_; have HB := n3_; clear n0_ n1_ n2_ n3_; (try clear hb); (try clear hb2); (try clear hk); (try clear hi))); try go_wp2_with (first | (go_at_call 40; (with_reducible refine (logbookref32_item.calls kj30 (a0.extract (x10_3 : Int).toNat a0.size) t210 true _ A42.out).mono ?_); rintro e w62 ⟨rfl, hb⟩; have n0_ := Aside0.mk (Kd.R_below (by (with_reducible repeat (first | apply Kd.R_alloc | apply Kd.R_drewN | apply Kd.R_drew)); exact HO_11.out) hb); have n1_ := Aside0.mk (blk_below (g := gb199) (o := .cells #[.int .u64 z0_3, .int .u64 z1_3, .int .u64 z2_3, .int .u64 z3_3, .int .u64 z4_3, .int .u64 z5_3] 23 (0, 0)) (by (with_reducible repeat (first | refine blk_drewN ?_ _ | refine blk_drew ?_ | refine blk_alloc ?_ _)); exact BK199.out) hb); have n2_ := Aside0.mk (blk_below (g := gb208) (o := .cells #[.int .u64 t201, .int .u64 t202, .int .u64 t203, .int .u64 t204, .int .u64 t205, .int .u64 t206] 23 (0, 0)) (by (with_reducible repeat (first | refine blk_drewN ?_ _ | refine blk_drew ?_ | refine blk_alloc ?_ _)); exact BK208.out) hb); have n3_ := Aside0.mk (below_step (by repeat (first | (with_reducible first | exact HB.out | apply below_alloc | apply pw_below_drewN | apply below_drew1 | refine below_set ?_ GE199.out | refine below_set ?_ GE208.out) | exact HB.out)) hb); clear HO_11; clear BK199; clear BK208; clear HB; have HO_11 := n0_; have BK199 := n1_; have BK208 := n2_; have HB := n3_; clear n0_ n1_ n2_ n3_; (try clear hb); (try clear hb2); (try clear hk); (try clear hi)) | ((with_reducible refine gate_builtin (b := .append) (xs := #[.tmp 102, .tmp 104]) rfl ?_); (try (refine gate_guard (by rfl) ?_; dsimp only)); at_builtin; refine Kd.R_append Kd.string (w0 := w) w.heap.size rfl (.tmp 102) (.tmp 104) 24 9 (.string ⟨#[]⟩) 16 rfl Tryd.underlying24 info9 rfl (by decide) (by omega) u11 x11_3 t210 [.string t210] (fun _ => True) (fun _ => False) rfl rfl ?aP (fun _ hk => hk.elim) ?aF ?aO ?aB ?aS ?aL ?_; (case aP => exact rfl); (case aB => exact (by repeat (first | (with_reducible first | exact HB.out | apply below_alloc | apply pw_below_drewN | apply below_drew1 | refine below_set ?_ GE199.out | refine below_set ?_ GE208.out) | exact HB.out))); (case aF => exact (fun _ _ => trivial)); (case aO => exact (by (with_reducible repeat (first | apply Kd.R_alloc | apply Kd.R_drewN | apply Kd.R_drew)); exact HO_11.out)); (case aS => exact (below_size (by repeat (first | (with_reducible first | exact HB.out | apply below_alloc | apply pw_below_drewN | apply below_drew1 | refine below_set ?_ GE199.out | refine below_set ?_ GE208.out) | exact HB.out)))); (case aL => have := LMc60.out; omega); intro v217 w63 ho hb hg hat; rw [← Ny216.out] at ho; have n0_ := Aside0.mk (blk_grown (g := gb199) (o := .cells #[.int .u64 z0_3, .int .u64 z1_3, .int .u64 z2_3, .int .u64 z3_3, .int .u64 z4_3, .int .u64 z5_3] 23 (0, 0)) (by (with_reducible repeat (first | refine blk_drewN ?_ _ | refine blk_drew ?_ | refine blk_alloc ?_ _)); exact BK199.out) hg (Kd.R_ne HO_11.out BK199.out (by decide))); have n1_ := Aside0.mk (blk_grown (g := gb208) (o := .cells #[.int .u64 t201, .int .u64 t202, .int .u64 t203, .int .u64 t204, .int .u64 t205, .int .u64 t206] 23 (0, 0)) (by (with_reducible repeat (first | refine blk_drewN ?_ _ | refine blk_drew ?_ | refine blk_alloc ?_ _)); exact BK208.out) hg (Kd.R_ne HO_11.out BK208.out (by decide))); have n2_ := Aside0.mk (hb); have n3_ := Aside0.mk (ho); clear BK199; clear BK208; clear HB; clear HO_11; have BK199 := n0_; have BK208 := n1_; have HB := n2_; have HO218 := n3_; clear n0_ n1_ n2_ n3_; clear ho hb hg hat) | (go_at_call 9; (with_reducible refine (logbookref32_Item.calls kj30 t210 t219 _ A61.out).mono ?_); rintro e w64 ⟨rfl, hb⟩; have n0_ := Aside0.mk (Kd.R_below (by (with_reducible repeat (first | apply Kd.R_alloc | apply Kd.R_drewN | apply Kd.R_drew)); exact HO218.out) hb); have n1_ := Aside0.mk (blk_below (g := gb199) (o := .cells #[.int .u64 z0_3, .int .u64 z1_3, .int .u64 z2_3, .int .u64 z3_3, .int .u64 z4_3, .int .u64 z5_3] 23 (0, 0)) (by (with_reducible repeat (first | refine blk_drewN ?_ _ | refine blk_drew ?_ | refine blk_alloc ?_ _)); exact BK199.out) hb); have n2_ := Aside0.mk (blk_below (g := gb208) (o := .cells #[.int .u64 t201, .int .u64 t202, .int .u64 t203, .int .u64 t204, .int .u64 t205, .int .u64 t206] 23 (0, 0)) (by (with_reducible repeat (first | refine blk_drewN ?_ _ | refine blk_drew ?_ | refine blk_alloc ?_ _)); exact BK208.out) hb); have n3_ := Aside0.mk (below_step (by repeat (first | (with_reducible first | exact HB.out | apply below_alloc | apply pw_below_drewN | apply below_drew1 | refine below_set ?_ GE199.out | refine below_set ?_ GE208.out) | exact HB.out)) hb); clear HO218; clear BK199; clear BK208; clear HB; have HO218 := n0_; have BK199 := n1_; have BK208 := n2_; have HB := n3_; clear n0_ n1_ n2_ n3_; (try clear hb); (try clear hb2); (try clear hk); (try clear hi))))
                     go_roundg kj30
                     case measure => have := HJ2.out; have := HJ13.out; have := HK3.out; have := HJ30.out; omega
                     case rel => exact ⟨(wrap64 (x10_3 + (t219.size : Int))), (y216), (wrap64 (x12_3 + 1)), (z0_3), (z1_3), (z2_3), (z3_3), (z4_3), (z5_3), (by first | rfl | (simp; done) | (simp [*]; done) | exact isEmpty_bne _), (by first | rfl | (simp; done) | (simp [*]; done) | exact isEmpty_bne _), H', ⟨by have := HJ2.out; have := HJ13.out; have := HK3.out; have := HJ30.out; omega⟩, ⟨by (with_reducible repeat (first | apply Kd.R_alloc | apply Kd.R_drewN | apply Kd.R_drew)); exact HO218.out⟩, ⟨by (with_reducible repeat (first | refine blk_drewN ?_ _ | refine blk_drew ?_ | refine blk_alloc ?_ _)); exact BK199.out⟩, ⟨by (with_reducible repeat (first | refine blk_drewN ?_ _ | refine blk_drew ?_ | refine blk_alloc ?_ _)); exact BK208.out⟩, ⟨by repeat (first | (with_reducible first | exact HB.out | apply below_alloc | apply pw_below_drewN | apply below_drew1 | refine below_set ?_ GE199.out | refine below_set ?_ GE208.out) | exact HB.out)⟩⟩
                    ·rw [if_neg c60] at H
                     exact absurd H (by simp)
                 ·replace c43 := Bool.eq_false_iff.mpr c43
                  subst c43
                  have H1 : (some (0, 0, 0, 0, 0, 0, ([] : List ByteArray), 0, false)) = some (r1, r2, r3, r4, r5, r6, r7, r8, r9) := by rw [if_neg (show ¬ (false = true) by decide)] at H; exact H
                  clear H
                  have H := H1
                  clear H1
                  simp only [Option.some.injEq, Prod.mk.injEq] at H
                  obtain ⟨rfl, rfl, rfl, rfl, rfl, rfl, rfl, rfl, rfl⟩ := H
                  go_wp2_with (first | (go_at_call 40; (with_reducible refine (logbookref32_item.calls kj30 (a0.extract (x10_3 : Int).toNat a0.size) t210 false _ A42.out).mono ?_); rintro e w65 ⟨rfl, hb⟩; have n0_ := Aside0.mk (Kd.R_below (by (with_reducible repeat (first | apply Kd.R_alloc | apply Kd.R_drewN | apply Kd.R_drew)); exact HO_11.out) hb); have n1_ := Aside0.mk (blk_below (g := gb199) (o := .cells #[.int .u64 z0_3, .int .u64 z1_3, .int .u64 z2_3, .int .u64 z3_3, .int .u64 z4_3, .int .u64 z5_3] 23 (0, 0)) (by (with_reducible repeat (first | refine blk_drewN ?_ _ | refine blk_drew ?_ | refine blk_alloc ?_ _)); exact BK199.out) hb); have n2_ := Aside0.mk (blk_below (g := gb208) (o := .cells #[.int .u64 t201, .int .u64 t202, .int .u64 t203, .int .u64 t204, .int .u64 t205, .int .u64 t206] 23 (0, 0)) (by (with_reducible repeat (first | refine blk_drewN ?_ _ | refine blk_drew ?_ | refine blk_alloc ?_ _)); exact BK208.out) hb); have n3_ := Aside0.mk (below_step (by repeat (first | (with_reducible first | exact HB.out | apply below_alloc | apply pw_below_drewN | apply below_drew1 | refine below_set ?_ GE199.out | refine below_set ?_ GE208.out) | exact HB.out)) hb); clear HO_11; clear BK199; clear BK208; clear HB; have HO_11 := n0_; have BK199 := n1_; have BK208 := n2_; have HB := n3_; clear n0_ n1_ n2_ n3_; (try clear hb); (try clear hb2); (try clear hk); (try clear hi); have hnb66 := NB199_208.out; have hnc66 := NB208_199.out; have hcz67_0 : w65.cell? ⟨gb199, 0, none⟩ = some (.int .u64 z0_3) := (blk_cell BK199.out 0).trans rfl; have hcz67_1 : w65.cell? ⟨gb199, 1, none⟩ = some (.int .u64 z1_3) := (blk_cell BK199.out 1).trans rfl; have hcz67_2 : w65.cell? ⟨gb199, 2, none⟩ = some (.int .u64 z2_3) := (blk_cell BK199.out 2).trans rfl; have hcz67_3 : w65.cell? ⟨gb199, 3, none⟩ = some (.int .u64 z3_3) := (blk_cell BK199.out 3).trans rfl; have hcz67_4 : w65.cell? ⟨gb199, 4, none⟩ = some (.int .u64 z4_3) := (blk_cell BK199.out 4).trans rfl; have hcz67_5 : w65.cell? ⟨gb199, 5, none⟩ = some (.int .u64 z5_3) := (blk_cell BK199.out 5).trans rfl; have hfz67_0 := blk_frozen BK199.out 0; have hfz67_1 := blk_frozen BK199.out 1; have hfz67_2 := blk_frozen BK199.out 2; have hfz67_3 := blk_frozen BK199.out 3; have hfz67_4 := blk_frozen BK199.out 4; have hfz67_5 := blk_frozen BK199.out 5))
                  repeat (go_quiet (first | (go_at_call 40; (with_reducible refine (logbookref32_item.calls kj30 (a0.extract (x10_3 : Int).toNat a0.size) t210 false _ A42.out).mono ?_); rintro e w65 ⟨rfl, hb⟩; have n0_ := Aside0.mk (Kd.R_below (by (with_reducible repeat (first | apply Kd.R_alloc | apply Kd.R_drewN | apply Kd.R_drew)); exact HO_11.out) hb); have n1_ := Aside0.mk (blk_below (g := gb199) (o := .cells #[.int .u64 z0_3, .int .u64 z1_3, .int .u64 z2_3, .int .u64 z3_3, .int .u64 z4_3, .int .u64 z5_3] 23 (0, 0)) (by (with_reducible repeat (first | refine blk_drewN ?_ _ | refine blk_drew ?_ | refine blk_alloc ?_ _)); exact BK199.out) hb); have n2_ := Aside0.mk (blk_below (g := gb208) (o := .cells #[.int .u64 t201, .int .u64 t202, .int .u64 t203, .int .u64 t204, .int .u64 t205, .int .u64 t206] 23 (0, 0)) (by (with_reducible repeat (first | refine blk_drewN ?_ _ | refine blk_drew ?_ | refine blk_alloc ?_ _)); exact BK208.out) hb); have n3_ := Aside0.mk (below_step (by repeat (first | (with_reducible first | exact HB.out | apply below_alloc | apply pw_below_drewN | apply below_drew1 | refine below_set ?_ GE199.out | refine below_set ?_ GE208.out) | exact HB.out)) hb); clear HO_11; clear BK199; clear BK208; clear HB; have HO_11 := n0_; have BK199 := n1_; have BK208 := n2_; have HB := n3_; clear n0_ n1_ n2_ n3_; (try clear hb); (try clear hb2); (try clear hk); (try clear hi); have hnb66 := NB199_208.out; have hnc66 := NB208_199.out; have hcz67_0 : w65.cell? ⟨gb199, 0, none⟩ = some (.int .u64 z0_3) := (blk_cell BK199.out 0).trans rfl; have hcz67_1 : w65.cell? ⟨gb199, 1, none⟩ = some (.int .u64 z1_3) := (blk_cell BK199.out 1).trans rfl; have hcz67_2 : w65.cell? ⟨gb199, 2, none⟩ = some (.int .u64 z2_3) := (blk_cell BK199.out 2).trans rfl; have hcz67_3 : w65.cell? ⟨gb199, 3, none⟩ = some (.int .u64 z3_3) := (blk_cell BK199.out 3).trans rfl; have hcz67_4 : w65.cell? ⟨gb199, 4, none⟩ = some (.int .u64 z4_3) := (blk_cell BK199.out 4).trans rfl; have hcz67_5 : w65.cell? ⟨gb199, 5, none⟩ = some (.int .u64 z5_3) := (blk_cell BK199.out 5).trans rfl; have hfz67_0 := blk_frozen BK199.out 0; have hfz67_1 := blk_frozen BK199.out 1; have hfz67_2 := blk_frozen BK199.out 2; have hfz67_3 := blk_frozen BK199.out 3; have hfz67_4 := blk_frozen BK199.out 4; have hfz67_5 := blk_frozen BK199.out 5)); try go_wp2_with (first | (go_at_call 40; (with_reducible refine (logbookref32_item.calls kj30 (a0.extract (x10_3 : Int).toNat a0.size) t210 false _ A42.out).mono ?_); rintro e w65 ⟨rfl, hb⟩; have n0_ := Aside0.mk (Kd.R_below (by (with_reducible repeat (first | apply Kd.R_alloc | apply Kd.R_drewN | apply Kd.R_drew)); exact HO_11.out) hb); have n1_ := Aside0.mk (blk_below (g := gb199) (o := .cells #[.int .u64 z0_3, .int .u64 z1_3, .int .u64 z2_3, .int .u64 z3_3, .int .u64 z4_3, .int .u64 z5_3] 23 (0, 0)) (by (with_reducible repeat (first | refine blk_drewN ?_ _ | refine blk_drew ?_ | refine blk_alloc ?_ _)); exact BK199.out) hb); have n2_ := Aside0.mk (blk_below (g := gb208) (o := .cells #[.int .u64 t201, .int .u64 t202, .int .u64 t203, .int .u64 t204, .int .u64 t205, .int .u64 t206] 23 (0, 0)) (by (with_reducible repeat (first | refine blk_drewN ?_ _ | refine blk_drew ?_ | refine blk_alloc ?_ _)); exact BK208.out) hb); have n3_ := Aside0.mk (below_step (by repeat (first | (with_reducible first | exact HB.out | apply below_alloc | apply pw_below_drewN | apply below_drew1 | refine below_set ?_ GE199.out | refine below_set ?_ GE208.out) | exact HB.out)) hb); clear HO_11; clear BK199; clear BK208; clear HB; have HO_11 := n0_; have BK199 := n1_; have BK208 := n2_; have HB := n3_; clear n0_ n1_ n2_ n3_; (try clear hb); (try clear hb2); (try clear hk); (try clear hi); have hnb66 := NB199_208.out; have hnc66 := NB208_199.out; have hcz67_0 : w65.cell? ⟨gb199, 0, none⟩ = some (.int .u64 z0_3) := (blk_cell BK199.out 0).trans rfl; have hcz67_1 : w65.cell? ⟨gb199, 1, none⟩ = some (.int .u64 z1_3) := (blk_cell BK199.out 1).trans rfl; have hcz67_2 : w65.cell? ⟨gb199, 2, none⟩ = some (.int .u64 z2_3) := (blk_cell BK199.out 2).trans rfl; have hcz67_3 : w65.cell? ⟨gb199, 3, none⟩ = some (.int .u64 z3_3) := (blk_cell BK199.out 3).trans rfl; have hcz67_4 : w65.cell? ⟨gb199, 4, none⟩ = some (.int .u64 z4_3) := (blk_cell BK199.out 4).trans rfl; have hcz67_5 : w65.cell? ⟨gb199, 5, none⟩ = some (.int .u64 z5_3) := (blk_cell BK199.out 5).trans rfl; have hfz67_0 := blk_frozen BK199.out 0; have hfz67_1 := blk_frozen BK199.out 1; have hfz67_2 := blk_frozen BK199.out 2; have hfz67_3 := blk_frozen BK199.out 3; have hfz67_4 := blk_frozen BK199.out 4; have hfz67_5 := blk_frozen BK199.out 5)))
                  refine bodyPost_ret (results_list (rs := [.cell 2 23, .tmp 3, .tmp 4, .tmp 5]) rfl (by simp) (.cell gb199 23 #[.int .u64 0, .int .u64 0, .int .u64 0, .int .u64 0, .int .u64 0, .int .u64 0] (0, 0) _ rfl (by (with_reducible repeat (first | refine blk_drewN ?_ _ | refine blk_drew ?_ | refine blk_alloc ?_ _)); refine blk_put (cs := #[.int .u64 0, .int .u64 0, .int .u64 0, .int .u64 0, .int .u64 0, .int .u64 z5_3]) ?_ 5 _ rfl; (with_reducible repeat (first | refine blk_drewN ?_ _ | refine blk_drew ?_ | refine blk_alloc ?_ _)); refine blk_put (cs := #[.int .u64 0, .int .u64 0, .int .u64 0, .int .u64 0, .int .u64 z4_3, .int .u64 z5_3]) ?_ 4 _ rfl; (with_reducible repeat (first | refine blk_drewN ?_ _ | refine blk_drew ?_ | refine blk_alloc ?_ _)); refine blk_put (cs := #[.int .u64 0, .int .u64 0, .int .u64 0, .int .u64 z3_3, .int .u64 z4_3, .int .u64 z5_3]) ?_ 3 _ rfl; (with_reducible repeat (first | refine blk_drewN ?_ _ | refine blk_drew ?_ | refine blk_alloc ?_ _)); refine blk_put (cs := #[.int .u64 0, .int .u64 0, .int .u64 z2_3, .int .u64 z3_3, .int .u64 z4_3, .int .u64 z5_3]) ?_ 2 _ rfl; (with_reducible repeat (first | refine blk_drewN ?_ _ | refine blk_drew ?_ | refine blk_alloc ?_ _)); refine blk_put (cs := #[.int .u64 0, .int .u64 z1_3, .int .u64 z2_3, .int .u64 z3_3, .int .u64 z4_3, .int .u64 z5_3]) ?_ 1 _ rfl; (with_reducible repeat (first | refine blk_drewN ?_ _ | refine blk_drew ?_ | refine blk_alloc ?_ _)); refine blk_put (cs := #[.int .u64 z0_3, .int .u64 z1_3, .int .u64 z2_3, .int .u64 z3_3, .int .u64 z4_3, .int .u64 z5_3]) ?_ 0 _ rfl; (with_reducible repeat (first | refine blk_drewN ?_ _ | refine blk_drew ?_ | refine blk_alloc ?_ _)); exact BK199.out) Tryd.underlying23 rfl (by kernel_rfl) (.tmp (.tmp (.tmp .nil))))) rfl ?_
                  exact ⟨_, by first | rfl | (simp [errW_none, errW_some] <;> rfl) | (simp [*, errW_none, errW_some] <;> rfl), by first | exact Kd.R_nil _ _ _ _ _ | exact Kd.N_nil _ _ _ _ _ | exact Kd.V_nil _ _ _ _ _ | exact Kd.Q_nil _ _ _ _ _ | exact Kd.S_nil _ _ _ _ _, by repeat (first | (with_reducible first | exact HB.out | apply below_alloc | apply pw_below_drewN | apply below_drew1 | refine below_set ?_ GE199.out | refine below_set ?_ GE208.out) | exact HB.out)⟩
                ·rw [if_neg c41] at H
                 exact absurd H (by simp)
               ·rw [if_neg c40] at H
                exact absurd H (by simp)
           ·rw [if_neg c30] at H
            have c30b0 : decide (x12_3 ≤ 64) = false := decide_eq_false c30
            clear c30
            simp only [Option.some.injEq, Prod.mk.injEq] at H
            obtain ⟨rfl, rfl, rfl, rfl, rfl, rfl, rfl, rfl, rfl⟩ := H
            have hnb68 := NB199_208.out
            have hnc68 := NB208_199.out
            have hcz69_0 : wr.cell? ⟨gb199, 0, none⟩ = some (.int .u64 z0_3) := (blk_cell BK199.out 0).trans rfl
            have hcz69_1 : wr.cell? ⟨gb199, 1, none⟩ = some (.int .u64 z1_3) := (blk_cell BK199.out 1).trans rfl
            have hcz69_2 : wr.cell? ⟨gb199, 2, none⟩ = some (.int .u64 z2_3) := (blk_cell BK199.out 2).trans rfl
            have hcz69_3 : wr.cell? ⟨gb199, 3, none⟩ = some (.int .u64 z3_3) := (blk_cell BK199.out 3).trans rfl
            have hcz69_4 : wr.cell? ⟨gb199, 4, none⟩ = some (.int .u64 z4_3) := (blk_cell BK199.out 4).trans rfl
            have hcz69_5 : wr.cell? ⟨gb199, 5, none⟩ = some (.int .u64 z5_3) := (blk_cell BK199.out 5).trans rfl
            have hfz69_0 := blk_frozen BK199.out 0
            have hfz69_1 := blk_frozen BK199.out 1
            have hfz69_2 := blk_frozen BK199.out 2
            have hfz69_3 := blk_frozen BK199.out 3
            have hfz69_4 := blk_frozen BK199.out 4
            have hfz69_5 := blk_frozen BK199.out 5
            go_wp2
            repeat (go_quiet (fail); try go_wp2)
            refine bodyPost_ret (results_list (rs := [.cell 2 23, .tmp 3, .tmp 4, .tmp 5]) rfl (by simp) (.cell gb199 23 #[.int .u64 0, .int .u64 0, .int .u64 0, .int .u64 0, .int .u64 0, .int .u64 0] (0, 0) _ rfl (by (with_reducible repeat (first | refine blk_drewN ?_ _ | refine blk_drew ?_ | refine blk_alloc ?_ _)); refine blk_put (cs := #[.int .u64 0, .int .u64 0, .int .u64 0, .int .u64 0, .int .u64 0, .int .u64 z5_3]) ?_ 5 _ rfl; (with_reducible repeat (first | refine blk_drewN ?_ _ | refine blk_drew ?_ | refine blk_alloc ?_ _)); refine blk_put (cs := #[.int .u64 0, .int .u64 0, .int .u64 0, .int .u64 0, .int .u64 z4_3, .int .u64 z5_3]) ?_ 4 _ rfl; (with_reducible repeat (first | refine blk_drewN ?_ _ | refine blk_drew ?_ | refine blk_alloc ?_ _)); refine blk_put (cs := #[.int .u64 0, .int .u64 0, .int .u64 0, .int .u64 z3_3, .int .u64 z4_3, .int .u64 z5_3]) ?_ 3 _ rfl; (with_reducible repeat (first | refine blk_drewN ?_ _ | refine blk_drew ?_ | refine blk_alloc ?_ _)); refine blk_put (cs := #[.int .u64 0, .int .u64 0, .int .u64 z2_3, .int .u64 z3_3, .int .u64 z4_3, .int .u64 z5_3]) ?_ 2 _ rfl; (with_reducible repeat (first | refine blk_drewN ?_ _ | refine blk_drew ?_ | refine blk_alloc ?_ _)); refine blk_put (cs := #[.int .u64 0, .int .u64 z1_3, .int .u64 z2_3, .int .u64 z3_3, .int .u64 z4_3, .int .u64 z5_3]) ?_ 1 _ rfl; (with_reducible repeat (first | refine blk_drewN ?_ _ | refine blk_drew ?_ | refine blk_alloc ?_ _)); refine blk_put (cs := #[.int .u64 z0_3, .int .u64 z1_3, .int .u64 z2_3, .int .u64 z3_3, .int .u64 z4_3, .int .u64 z5_3]) ?_ 0 _ rfl; (with_reducible repeat (first | refine blk_drewN ?_ _ | refine blk_drew ?_ | refine blk_alloc ?_ _)); exact BK199.out) Tryd.underlying23 rfl (by kernel_rfl) (.tmp (.tmp (.tmp .nil))))) rfl ?_
            exact ⟨_, by first | rfl | (simp [errW_none, errW_some] <;> rfl) | (simp [*, errW_none, errW_some] <;> rfl), by first | exact Kd.R_nil _ _ _ _ _ | exact Kd.N_nil _ _ _ _ _ | exact Kd.V_nil _ _ _ _ _ | exact Kd.Q_nil _ _ _ _ _ | exact Kd.S_nil _ _ _ _ _, by repeat (first | (with_reducible first | exact HB.out | apply below_alloc | apply pw_below_drewN | apply below_drew1 | refine below_set ?_ GE199.out | refine below_set ?_ GE208.out) | exact HB.out)⟩
     ·rw [if_neg c11] at H
      exact absurd H (by simp)
    ·rw [if_neg c10] at H
     exact absurd H (by simp)

end Go.Proofs.YtbbegchdlkmebaaDoor.PExportReads
