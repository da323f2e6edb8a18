/- ExportWrites: the row and its tied card. -/
/- ExportWrites: the row of the law, out of its pure statement (YtbbegchdlkmebaaDoorPureExportWrites) and the printed walk; its parameters opened by YtbbegchdlkmebaaDoorOpen. -/
import Derived.Test.YtbbegchdlkmebaaDoorTie
import Derived.Test.YtbbegchdlkmebaaDoorCards
import Derived.LaidMore
import Derived.Lay
import Derived.SevenTiedAt
import Derived.Stop.Joined
import Derived.Test.YtbbegchdlkmebaaDoorRows
import Derived.Test.YtbbegchdlkmebaaDoorPExportWritesx8
import Derived.Test.YtbbegchdlkmebaaDoorPureExportWrites
import Derived.Test.YtbbegchdlkmebaaDoorOpen
import Derived.WalkKit
import Derived.ProofKit
import Derived.OpenShut
import Derived.ShutString
import Derived.ChangeOld
import Derived.Below
import Derived.SizedLaws
namespace Go.Proofs.YtbbegchdlkmebaaDoor.exportWrites
open Go.ChangeShapes Go.WideShapes Go.ChangeAt Go.RowKit Go.Proofs.YtbbegchdlkmebaaDoorW.PrintWords Go.Proofs.YtbbegchdlkmebaaDoor.PExportWrites Go.Proofs.YtbbegchdlkmebaaDoor.Opn
open Go.ChangeMaps (open_string shut_string)
set_option linter.unusedVariables false
set_option linter.unusedSimpArgs false
theorem own : ownKnob Tryd.prog.godebug = none := by kernel_rfl
theorem laidOut : laidOutB Tryd.prog = true := by kernel_rfl
set_option maxRecDepth 100000 in
theorem lifted (os : Os) (started : os.Started) (H : Type) (enc : TypeId × Value → H) :
    ReturnsInHanded {} Tryd.checked os 3 .any (fun w args => (Rows.exportWritesSpec.pre enc Tryd.prog Tryd.f3 Rows.exportWritesRow.domain false w args ∧ laidMetH Tryd.prog Rows.exportWritesRow.laid w) ∧ sizedMet enc Tryd.prog Tryd.f3 (OpenSpec.ofChange Rows.exportWritesSpec) false w args) (Rows.exportWritesSpec.post enc Tryd.prog Tryd.f3 false true false false) := by
  refine returnsInHanded_of_change_and (C := Tryd.checked) (X := fun w _ => laidMetH Tryd.prog Rows.exportWritesRow.laid w) (fun _ _ _ hh h => h.of_heap hh) own started (by kernel_rfl) Tryd.func3
    (ChangeSpec.witness_shaped (enc := enc) (C := Tryd.checked) (os := os) (X := fun w _ => laidMetH Tryd.prog Rows.exportWritesRow.laid w) false (World.laidAll Tryd.prog os Rows.exportWritesRow.laid) #[.agg #[.int .u64 0, .int .u64 0, .int .u64 0, .int .u64 0, .int .u64 0, .int .u64 0], .slice none 0 0] 8 (World.laidAll_os _ _ _)
      (World.shaped_of_ZipB (by kernel_rfl) (by kernel_rfl)) (by kernel_rfl) (by kernel_rfl) (by kernel_rfl)
      (by rw [MakeChecks.laidMetH_plain _ _ _ (by kernel_rfl)]; exact laidMet_laidAll _ (by kernel_rfl) (by kernel_rfl))) ?_
  intro W base args ds gs before hval0 hW hcnd hsz0 _ _
  have hsz : (DataW.weightsEach Tryd.prog (Tryd.f3.params.toList ++ Rows.exportWritesSpec.plain.varTypes Tryd.prog) (ds ++ gs)).all (· ≤ reachBytes) = true := hsz0
  have hval : ∀ (j : Nat) t v, Tryd.f3.params[j]? = some t → args[j]? = some v → Value.okWide Tryd.prog W .any base t v := hval0
  have hW' := hW
  obtain ⟨p, q, hA0, hV, rfl, hfz, hnd⟩ := hW
  have hA : DataW.TrodAll enc Tryd.prog W 0 (fun _ => true) true Tryd.f3.params.toList args.toList ds p := hA0
  rw [Tryd.params3] at hA hval hsz
  obtain ⟨v0, vs0, d0, ds0, p0, q0, hargs, rfl, rfl, h0, r0⟩ := trodAll_cons hA
  obtain ⟨v1, vs1, d1, ds1, p1, q1, rfl, rfl, rfl, h1, r1⟩ := trodAll_cons r0
  obtain ⟨rfl, rfl, rfl⟩ := trodAll_nil r1
  obtain rfl : args = #[v0, v1] := by cases args; simp_all
  obtain ⟨rfl, rfl⟩ := trodVars_none hV
  have lt0 := trod_blocks h0
  have k0 := h0
  obtain ⟨cs0, rfl, hcs0⟩ := okWide_array Tryd.underlying23 (hval 0 23 v0 rfl rfl)
  obtain ⟨y0, K0, w0, b0⟩ := Opens.arg (Opens.array (d := (Kd.pair (Kd.int .u64) (Kd.pair (Kd.int .u64) (Kd.pair (Kd.int .u64) (Kd.pair (Kd.int .u64) (Kd.pair (Kd.int .u64) (Kd.int .u64))))))) (fun p => p) (fun p => p) (fun _ => rfl) Tryd.underlying23 (by kernel_rfl) (by kernel_rfl) (OpensFs.cons rfl rfl (by kernel_rfl) (Opens.int Tryd.underlying22) (OpensFs.cons rfl rfl (by kernel_rfl) (Opens.int Tryd.underlying22) (OpensFs.cons rfl rfl (by kernel_rfl) (Opens.int Tryd.underlying22) (OpensFs.cons rfl rfl (by kernel_rfl) (Opens.int Tryd.underlying22) (OpensFs.cons rfl rfl (by kernel_rfl) (Opens.int Tryd.underlying22) (OpensFs.one rfl rfl (by kernel_rfl) (Opens.int Tryd.underlying22)))))))) hsz (j := 0) (t := 23) rfl rfl h0
  obtain ⟨_, _, E0, rfl, ⟨_, _, rfl, rfl, ⟨_, _, rfl, rfl, ⟨_, _, rfl, rfl, ⟨_, _, rfl, rfl, rfl⟩⟩⟩⟩⟩ := K0
  have E0' : Value.agg cs0 = .agg #[.int .u64 y0.1, .int .u64 y0.2.1, .int .u64 y0.2.2.1, .int .u64 y0.2.2.2.1, .int .u64 y0.2.2.2.2.1, .int .u64 y0.2.2.2.2.2] := agg_of (l := [.int .u64 y0.1, .int .u64 y0.2.1, .int .u64 y0.2.2.1, .int .u64 y0.2.2.2.1, .int .u64 y0.2.2.2.2.1, .int .u64 y0.2.2.2.2.2]) E0
  have lt1 := trod_blocks h1
  have k1 := h1
  obtain ⟨A1, n1, c1, rfl⟩ := okWide_slice Tryd.underlying24 (hval 1 24 v1 rfl rfl)
  obtain ⟨y1, K1, w1, b1⟩ := Opens.arg (Opens.slice (z := ByteArray.empty) (B := 16) (d := Kd.string) Tryd.underlying24 (by kernel_rfl) (by kernel_rfl) (Opens.string Tryd.underlying9)) hsz (j := 1) (t := 24) rfl rfl h1
  obtain ⟨rfl, hc1, hr1⟩ := slice_of (P := Tryd.prog) (t := 24) K1
  clear hA0 hval0 hsz0 hsz
  obtain ⟨k, hP⟩ := PureExportWrites.ExportWrites y0 y1 w0 w1
  have hcall : Calls Tryd.prog 3 #[Value.agg cs0, .slice A1 y1.length c1] W fun e w' => e = .returned (.bool true) ∧ Below W.heap.size W w' := by
    rw [E0']
    refine (PExportWrites.logbooklaw32_ExportWrites.calls k y0.1 y0.2.1 y0.2.2.1 y0.2.2.2.1 y0.2.2.2.2.1 y0.2.2.2.2.2 _ _ y1 true W hr1 hc1 hP).mono ?_
    rintro e w' ⟨rfl, hd⟩
    exact ⟨rfl, hd⟩
  refine hcall.mono fun e W' ⟨he, bel⟩ => ?_
  subst he
  exact ⟨_, rfl, _, _, _, [], _, [], hW', trodAll_mk1 (shut_bool Tryd.underlying4 _), (trodAll_cons_mk (Below.trod laidOut (by kernel_rfl) (of_decide_eq_true (by kernel_rfl)) k0 bel lt0) (trodAll_cons_mk (Below.trod laidOut (by kernel_rfl) (of_decide_eq_true (by kernel_rfl)) k1 bel lt1) trodAll_mk0)), rfl, bel.frame _, fun h => by cases h⟩
theorem over : Rows.exportWritesRow.holds Tryd.pinned (OpenSpec.ofChange Rows.exportWritesSpec) :=
  OpenClaim.holds_of_wide 3 Tryd.f3 rfl rfl rfl rfl rfl rfl rfl ⟨rfl, rfl, rfl, rfl, rfl⟩ rfl rfl rfl rfl rfl (by kernel_rfl) Tryd.func3 (by kernel_rfl)
    (of_decide_eq_true (by kernel_rfl)) (by unfold Func.isWrapper; first | (rw [if_pos (by decide +kernel)]; kernel_rfl) | (rw [if_neg (by decide +kernel)]; exact ⟨rfl, rfl⟩))
    (fun os started H enc _ => lifted os started H enc)
theorem card : Rows.ExportWritesCardSaid :=
  Claim7.holds_tied_plain_at .later [] [.data, .pinned] true (true, "b63e50d9dc56fc7c44a19efd605d55881bb47798fee69dbd89a2804774ce7837") false over (fun _ h => by cases h) (by kernel_rfl) (fun _ h => by cases h) exportWrites_row_tie rfl ⟨rfl, rfl⟩ (by kernel_rfl) rfl
    (fun f fn hf hfn => by
      obtain rfl : f = 3 := Option.some.inj ((show Tryd.prog.funcNamed "logbook/logbooklaw32.ExportWrites" = some 3 by kernel_rfl).symm.trans hf) |>.symm
      obtain rfl : fn = Tryd.f3 := (Option.some.inj (Tryd.func3.symm.trans hfn)).symm
      exact ⟨by kernel_rfl, fun j t ht => by
        rw [Tryd.params3] at ht
        have hm : t ∈ [23, 24] := by simpa using Array.mem_of_getElem? ht
        have hall : ([23, 24].all fun u => !Tryd.prog.wantsStandIn u) = true := by kernel_rfl
        exact (show Tryd.prog.wantsStandIn t = false by simpa using List.all_eq_true.1 hall t hm)⟩)
    (by kernel_rfl)
#print axioms card
end Go.Proofs.YtbbegchdlkmebaaDoor.exportWrites
namespace Go.Proofs.YtbbegchdlkmebaaDoor
/-- The card, under a short name, for the claim. -/
theorem exportWrites_holds : Rows.ExportWritesCardSaid := exportWrites.card
end Go.Proofs.YtbbegchdlkmebaaDoor
