/- ExportBack: the row and its tied card. -/
/- ExportBack: the row of the law, out of its pure statement (YtbbegchdlkmebaaDoorPureExportBack) and the printed walk; its parameters opened by YtbbegchdlkmebaaDoorOpen. -/
import Derived.Test.YtbbegchdlkmebaaDoorTie
import Derived.Test.YtbbegchdlkmebaaDoorCards
import Derived.LaidMore
import Derived.Lay
import Derived.SevenTiedAt
import Derived.Stop.Joined
import Derived.Test.YtbbegchdlkmebaaDoorRows
import Derived.Test.YtbbegchdlkmebaaDoorPExportBackx11
import Derived.Test.YtbbegchdlkmebaaDoorPureExportBack
import Derived.Test.YtbbegchdlkmebaaDoorOpen
import Derived.WalkKit
import Derived.ProofKit
import Derived.OpenShut
import Derived.ShutString
import Derived.ChangeOld
import Derived.Below
import Derived.SizedLaws
namespace Go.Proofs.YtbbegchdlkmebaaDoor.exportBack
open Go.ChangeShapes Go.WideShapes Go.ChangeAt Go.RowKit Go.Proofs.YtbbegchdlkmebaaDoorW.PrintWords Go.Proofs.YtbbegchdlkmebaaDoor.PExportBack Go.Proofs.YtbbegchdlkmebaaDoor.Opn
open Go.ChangeMaps (open_string shut_string)
set_option linter.unusedVariables false
set_option linter.unusedSimpArgs false
theorem own : ownKnob Tryd.prog.godebug = none := by kernel_rfl
theorem laidOut : laidOutB Tryd.prog = true := by kernel_rfl
set_option maxRecDepth 100000 in
theorem lifted (os : Os) (started : os.Started) (H : Type) (enc : TypeId × Value → H) :
    ReturnsInHanded {} Tryd.checked os 5 .any (fun w args => (Rows.exportBackSpec.pre enc Tryd.prog Tryd.f5 Rows.exportBackRow.domain false w args ∧ laidMetH Tryd.prog Rows.exportBackRow.laid w) ∧ sizedMet enc Tryd.prog Tryd.f5 (OpenSpec.ofChange Rows.exportBackSpec) false w args) (Rows.exportBackSpec.post enc Tryd.prog Tryd.f5 false true false false) := by
  refine returnsInHanded_of_change_and (C := Tryd.checked) (X := fun w _ => laidMetH Tryd.prog Rows.exportBackRow.laid w) (fun _ _ _ hh h => h.of_heap hh) own started (by kernel_rfl) Tryd.func5
    (ChangeSpec.witness_shaped (enc := enc) (C := Tryd.checked) (os := os) (X := fun w _ => laidMetH Tryd.prog Rows.exportBackRow.laid w) false (World.laidAll Tryd.prog os Rows.exportBackRow.laid) #[.slice none 0 0, .slice none 0 0] 8 (World.laidAll_os _ _ _)
      (World.shaped_of_ZipB (by kernel_rfl) (by kernel_rfl)) (by kernel_rfl) (by kernel_rfl) (by kernel_rfl)
      (by rw [MakeChecks.laidMetH_plain _ _ _ (by kernel_rfl)]; exact laidMet_laidAll _ (by kernel_rfl) (by kernel_rfl))) ?_
  intro W base args ds gs before hval0 hW hcnd hsz0 _ _
  have hsz : (DataW.weightsEach Tryd.prog (Tryd.f5.params.toList ++ Rows.exportBackSpec.plain.varTypes Tryd.prog) (ds ++ gs)).all (· ≤ reachBytes) = true := hsz0
  have hval : ∀ (j : Nat) t v, Tryd.f5.params[j]? = some t → args[j]? = some v → Value.okWide Tryd.prog W .any base t v := hval0
  have hW' := hW
  obtain ⟨p, q, hA0, hV, rfl, hfz, hnd⟩ := hW
  have hA : DataW.TrodAll enc Tryd.prog W 0 (fun _ => true) true Tryd.f5.params.toList args.toList ds p := hA0
  rw [Tryd.params5] at hA hval hsz
  obtain ⟨v0, vs0, d0, ds0, p0, q0, hargs, rfl, rfl, h0, r0⟩ := trodAll_cons hA
  obtain ⟨v1, vs1, d1, ds1, p1, q1, rfl, rfl, rfl, h1, r1⟩ := trodAll_cons r0
  obtain ⟨rfl, rfl, rfl⟩ := trodAll_nil r1
  obtain rfl : args = #[v0, v1] := by cases args; simp_all
  obtain ⟨rfl, rfl⟩ := trodVars_none hV
  have lt0 := trod_blocks h0
  have k0 := h0
  obtain ⟨A0, n0, c0, rfl⟩ := okWide_slice Tryd.underlying40 (hval 0 40 v0 rfl rfl)
  obtain ⟨y0, K0, w0, b0⟩ := Opens.arg (Opens.slice (z := z23) (B := 48) (d := k23) Tryd.underlying40 (by kernel_rfl) (by kernel_rfl) (Opens.array (d := (Kd.pair (Kd.int .u64) (Kd.pair (Kd.int .u64) (Kd.pair (Kd.int .u64) (Kd.pair (Kd.int .u64) (Kd.pair (Kd.int .u64) (Kd.int .u64))))))) (fun x : S23 => (x.f0, x.f1, x.f2, x.f3, x.f4, x.f5)) (fun p => (⟨p.1, p.2.1, p.2.2.1, p.2.2.2.1, p.2.2.2.2.1, p.2.2.2.2.2⟩ : S23)) (fun _ => rfl) Tryd.underlying23 (by kernel_rfl) (by kernel_rfl) (OpensFs.cons rfl rfl (by kernel_rfl) (Opens.int Tryd.underlying22) (OpensFs.cons rfl rfl (by kernel_rfl) (Opens.int Tryd.underlying22) (OpensFs.cons rfl rfl (by kernel_rfl) (Opens.int Tryd.underlying22) (OpensFs.cons rfl rfl (by kernel_rfl) (Opens.int Tryd.underlying22) (OpensFs.cons rfl rfl (by kernel_rfl) (Opens.int Tryd.underlying22) (OpensFs.one rfl rfl (by kernel_rfl) (Opens.int Tryd.underlying22))))))))) hsz (j := 0) (t := 40) rfl rfl h0
  obtain ⟨rfl, hc0, hr0⟩ := slice_of (P := Tryd.prog) (t := 40) K0
  have lt1 := trod_blocks h1
  have k1 := h1
  obtain ⟨A1, n1, c1, rfl⟩ := okWide_slice Tryd.underlying41 (hval 1 41 v1 rfl rfl)
  obtain ⟨y1, K1, w1, b1⟩ := Opens.arg (Opens.slice (z := ([] : List (ByteArray))) (B := 24) (d := (Kd.slice 9 Kd.string)) Tryd.underlying41 (by kernel_rfl) (by kernel_rfl) (Opens.slice (z := ByteArray.empty) (B := 16) (d := Kd.string) Tryd.underlying24 (by kernel_rfl) (by kernel_rfl) (Opens.string Tryd.underlying9))) hsz (j := 1) (t := 41) rfl rfl h1
  obtain ⟨rfl, hc1, hr1⟩ := slice_of (P := Tryd.prog) (t := 41) K1
  clear hA0 hval0 hsz0 hsz
  obtain ⟨k, hP⟩ := PureExportBack.ExportBack y0 y1 w0 w1
  have hcall : Calls Tryd.prog 5 #[.slice A0 y0.length c0, .slice A1 y1.length c1] W fun e w' => e = .returned (.bool true) ∧ Below W.heap.size W w' := by
    refine (PExportBack.logbooklaw32_ExportBack.calls k _ _ y0 _ _ y1 true W hr0 hc0 hr1 hc1 hP).mono ?_
    rintro e w' ⟨rfl, hd⟩
    exact ⟨rfl, hd⟩
  refine hcall.mono fun e W' ⟨he, bel⟩ => ?_
  subst he
  exact ⟨_, rfl, _, _, _, [], _, [], hW', trodAll_mk1 (shut_bool Tryd.underlying4 _), (trodAll_cons_mk (Below.trod laidOut (by kernel_rfl) (of_decide_eq_true (by kernel_rfl)) k0 bel lt0) (trodAll_cons_mk (Below.trod laidOut (by kernel_rfl) (of_decide_eq_true (by kernel_rfl)) k1 bel lt1) trodAll_mk0)), rfl, bel.frame _, fun h => by cases h⟩
theorem over : Rows.exportBackRow.holds Tryd.pinned (OpenSpec.ofChange Rows.exportBackSpec) :=
  OpenClaim.holds_of_wide 5 Tryd.f5 rfl rfl rfl rfl rfl rfl rfl ⟨rfl, rfl, rfl, rfl, rfl⟩ rfl rfl rfl rfl rfl (by kernel_rfl) Tryd.func5 (by kernel_rfl)
    (of_decide_eq_true (by kernel_rfl)) (by unfold Func.isWrapper; first | (rw [if_pos (by decide +kernel)]; kernel_rfl) | (rw [if_neg (by decide +kernel)]; exact ⟨rfl, rfl⟩))
    (fun os started H enc _ => lifted os started H enc)
theorem card : Rows.ExportBackCardSaid :=
  Claim7.holds_tied_plain_at .later [] [.data, .pinned] true (true, "b63e50d9dc56fc7c44a19efd605d55881bb47798fee69dbd89a2804774ce7837") false over (fun _ h => by cases h) (by kernel_rfl) (fun _ h => by cases h) exportBack_row_tie rfl ⟨rfl, rfl⟩ (by kernel_rfl) rfl
    (fun f fn hf hfn => by
      obtain rfl : f = 5 := Option.some.inj ((show Tryd.prog.funcNamed "logbook/logbooklaw32.ExportBack" = some 5 by kernel_rfl).symm.trans hf) |>.symm
      obtain rfl : fn = Tryd.f5 := (Option.some.inj (Tryd.func5.symm.trans hfn)).symm
      exact ⟨by kernel_rfl, fun j t ht => by
        rw [Tryd.params5] at ht
        have hm : t ∈ [40, 41] := by simpa using Array.mem_of_getElem? ht
        have hall : ([40, 41].all fun u => !Tryd.prog.wantsStandIn u) = true := by kernel_rfl
        exact (show Tryd.prog.wantsStandIn t = false by simpa using List.all_eq_true.1 hall t hm)⟩)
    (by kernel_rfl)
#print axioms card
end Go.Proofs.YtbbegchdlkmebaaDoor.exportBack
namespace Go.Proofs.YtbbegchdlkmebaaDoor
/-- The card, under a short name, for the claim. -/
theorem exportBack_holds : Rows.ExportBackCardSaid := exportBack.card
end Go.Proofs.YtbbegchdlkmebaaDoor
