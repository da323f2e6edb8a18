/- CursorWrites: the row and its tied card. -/
/- CursorWrites: the row of the law, out of its pure statement (YtmoodnnfghbilaaDoorPureCursorWrites) and the printed walk; its parameters opened by YtmoodnnfghbilaaDoorOpen. -/
import Derived.Test.YtmoodnnfghbilaaDoorTie
import Derived.Test.YtmoodnnfghbilaaDoorCards
import Derived.LaidMore
import Derived.Lay
import Derived.SevenTiedAt
import Derived.Stop.Joined
import Derived.Test.YtmoodnnfghbilaaDoorRows
import Derived.Test.YtmoodnnfghbilaaDoorPCursorWritesx6
import Derived.Test.YtmoodnnfghbilaaDoorPureCursorWrites
import Derived.Test.YtmoodnnfghbilaaDoorOpen
import Derived.WalkKit
import Derived.ProofKit
import Derived.OpenShut
import Derived.ShutString
import Derived.ChangeOld
import Derived.Below
import Derived.SizedLaws
namespace Go.Proofs.YtmoodnnfghbilaaDoor.cursorWrites
open Go.ChangeShapes Go.WideShapes Go.ChangeAt Go.RowKit Go.Proofs.YtmoodnnfghbilaaDoorW.PrintWords Go.Proofs.YtmoodnnfghbilaaDoor.PCursorWrites Go.Proofs.YtmoodnnfghbilaaDoor.Opn
open Go.ChangeMaps (open_string shut_string)
set_option linter.unusedVariables false
set_option linter.unusedSimpArgs false
theorem own : ownKnob Tryd.prog.godebug = none := by kernel_rfl
theorem laidOut : laidOutB Tryd.prog = true := by kernel_rfl
set_option maxRecDepth 100000 in
theorem lifted (os : Os) (started : os.Started) (H : Type) (enc : TypeId × Value → H) :
    ReturnsInHanded {} Tryd.checked os 5 .any (fun w args => (Rows.cursorWritesSpec.pre enc Tryd.prog Tryd.f5 Rows.cursorWritesRow.domain false w args ∧ laidMetH Tryd.prog Rows.cursorWritesRow.laid w) ∧ sizedMet enc Tryd.prog Tryd.f5 (OpenSpec.ofChange Rows.cursorWritesSpec) false w args) (Rows.cursorWritesSpec.post enc Tryd.prog Tryd.f5 false true false false) := by
  refine returnsInHanded_of_change_and (C := Tryd.checked) (X := fun w _ => laidMetH Tryd.prog Rows.cursorWritesRow.laid w) (fun _ _ _ hh h => h.of_heap hh) own started (by kernel_rfl) Tryd.func5
    (ChangeSpec.witness_shaped (enc := enc) (C := Tryd.checked) (os := os) (X := fun w _ => laidMetH Tryd.prog Rows.cursorWritesRow.laid w) false (World.laidAll Tryd.prog os Rows.cursorWritesRow.laid) #[.agg #[.int .u64 0, .int .u64 0, .int .u64 0, .int .u64 0, .int .u64 0, .int .u64 0]] 8 (World.laidAll_os _ _ _)
      (World.shaped_of_ZipB (by kernel_rfl) (by kernel_rfl)) (by kernel_rfl) (by kernel_rfl) (by kernel_rfl)
      (by rw [MakeChecks.laidMetH_plain _ _ _ (by kernel_rfl)]; exact laidMet_laidAll _ (by kernel_rfl) (by kernel_rfl))) ?_
  intro W base args ds gs before hval0 hW hcnd hsz0 _ _
  have hsz : (DataW.weightsEach Tryd.prog (Tryd.f5.params.toList ++ Rows.cursorWritesSpec.plain.varTypes Tryd.prog) (ds ++ gs)).all (· ≤ reachBytes) = true := hsz0
  have hval : ∀ (j : Nat) t v, Tryd.f5.params[j]? = some t → args[j]? = some v → Value.okWide Tryd.prog W .any base t v := hval0
  have hW' := hW
  obtain ⟨p, q, hA0, hV, rfl, hfz, hnd⟩ := hW
  have hA : DataW.TrodAll enc Tryd.prog W 0 (fun _ => true) true Tryd.f5.params.toList args.toList ds p := hA0
  rw [Tryd.params5] at hA hval hsz
  obtain ⟨v0, vs0, d0, ds0, p0, q0, hargs, rfl, rfl, h0, r0⟩ := trodAll_cons hA
  obtain ⟨rfl, rfl, rfl⟩ := trodAll_nil r0
  obtain rfl : args = #[v0] := by cases args; simp_all
  obtain ⟨rfl, rfl⟩ := trodVars_none hV
  have lt0 := trod_blocks h0
  have k0 := h0
  obtain ⟨cs0, rfl, hcs0⟩ := okWide_array Tryd.underlying23 (hval 0 23 v0 rfl rfl)
  obtain ⟨y0, K0, w0, b0⟩ := Opens.arg (Opens.array (d := (Kd.pair (Kd.int .u64) (Kd.pair (Kd.int .u64) (Kd.pair (Kd.int .u64) (Kd.pair (Kd.int .u64) (Kd.pair (Kd.int .u64) (Kd.int .u64))))))) (fun p => p) (fun p => p) (fun _ => rfl) Tryd.underlying23 (by kernel_rfl) (by kernel_rfl) (OpensFs.cons rfl rfl (by kernel_rfl) (Opens.int Tryd.underlying22) (OpensFs.cons rfl rfl (by kernel_rfl) (Opens.int Tryd.underlying22) (OpensFs.cons rfl rfl (by kernel_rfl) (Opens.int Tryd.underlying22) (OpensFs.cons rfl rfl (by kernel_rfl) (Opens.int Tryd.underlying22) (OpensFs.cons rfl rfl (by kernel_rfl) (Opens.int Tryd.underlying22) (OpensFs.one rfl rfl (by kernel_rfl) (Opens.int Tryd.underlying22)))))))) hsz (j := 0) (t := 23) rfl rfl h0
  obtain ⟨_, _, E0, rfl, ⟨_, _, rfl, rfl, ⟨_, _, rfl, rfl, ⟨_, _, rfl, rfl, ⟨_, _, rfl, rfl, rfl⟩⟩⟩⟩⟩ := K0
  have E0' : Value.agg cs0 = .agg #[.int .u64 y0.1, .int .u64 y0.2.1, .int .u64 y0.2.2.1, .int .u64 y0.2.2.2.1, .int .u64 y0.2.2.2.2.1, .int .u64 y0.2.2.2.2.2] := agg_of (l := [.int .u64 y0.1, .int .u64 y0.2.1, .int .u64 y0.2.2.1, .int .u64 y0.2.2.2.1, .int .u64 y0.2.2.2.2.1, .int .u64 y0.2.2.2.2.2]) E0
  clear hA0 hval0 hsz0 hsz
  obtain ⟨k, hP⟩ := PureCursorWrites.CursorWrites y0 w0
  have hcall : Calls Tryd.prog 5 #[Value.agg cs0] W fun e w' => e = .returned (.bool true) ∧ Below W.heap.size W w' := by
    rw [E0']
    refine (PCursorWrites.logbooklaw29_CursorWrites.calls k y0.1 y0.2.1 y0.2.2.1 y0.2.2.2.1 y0.2.2.2.2.1 y0.2.2.2.2.2 true W hP).mono ?_
    rintro e w' ⟨rfl, hd⟩
    exact ⟨rfl, hd⟩
  refine hcall.mono fun e W' ⟨he, bel⟩ => ?_
  subst he
  exact ⟨_, rfl, _, _, _, [], _, [], hW', trodAll_mk1 (shut_bool Tryd.underlying4 _), (trodAll_cons_mk (Below.trod laidOut (by kernel_rfl) (of_decide_eq_true (by kernel_rfl)) k0 bel lt0) trodAll_mk0), rfl, bel.frame _, fun h => by cases h⟩
theorem over : Rows.cursorWritesRow.holds Tryd.pinned (OpenSpec.ofChange Rows.cursorWritesSpec) :=
  OpenClaim.holds_of_wide 5 Tryd.f5 rfl rfl rfl rfl rfl rfl rfl ⟨rfl, rfl, rfl, rfl, rfl⟩ rfl rfl rfl rfl rfl (by kernel_rfl) Tryd.func5 (by kernel_rfl)
    (of_decide_eq_true (by kernel_rfl)) (by unfold Func.isWrapper; first | (rw [if_pos (by decide +kernel)]; kernel_rfl) | (rw [if_neg (by decide +kernel)]; exact ⟨rfl, rfl⟩))
    (fun os started H enc _ => lifted os started H enc)
theorem card : Rows.CursorWritesCardSaid :=
  Claim7.holds_tied_plain_at .later [] [.data, .pinned] true (true, "b2ba28e79e6f51a841f8bc9cb52de90783d7c8ae4efae622c6174a9247fc3dfe") false over (fun _ h => by cases h) (by kernel_rfl) (fun _ h => by cases h) cursorWrites_row_tie rfl ⟨rfl, rfl⟩ (by kernel_rfl) rfl
    (fun f fn hf hfn => by
      obtain rfl : f = 5 := Option.some.inj ((show Tryd.prog.funcNamed "logbook/logbooklaw29.CursorWrites" = some 5 by kernel_rfl).symm.trans hf) |>.symm
      obtain rfl : fn = Tryd.f5 := (Option.some.inj (Tryd.func5.symm.trans hfn)).symm
      exact ⟨by kernel_rfl, fun j t ht => by
        rw [Tryd.params5] at ht
        have hm : t ∈ [23] := by simpa using Array.mem_of_getElem? ht
        have hall : ([23].all fun u => !Tryd.prog.wantsStandIn u) = true := by kernel_rfl
        exact (show Tryd.prog.wantsStandIn t = false by simpa using List.all_eq_true.1 hall t hm)⟩)
    (by kernel_rfl)
#print axioms card
end Go.Proofs.YtmoodnnfghbilaaDoor.cursorWrites
namespace Go.Proofs.YtmoodnnfghbilaaDoor
/-- The card, under a short name, for the claim. -/
theorem cursorWrites_holds : Rows.CursorWritesCardSaid := cursorWrites.card
end Go.Proofs.YtmoodnnfghbilaaDoor
