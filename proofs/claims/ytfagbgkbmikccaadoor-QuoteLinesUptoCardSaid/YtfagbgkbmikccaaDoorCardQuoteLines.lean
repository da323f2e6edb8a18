/- QuoteLines: the row and its tied card. -/
/- QuoteLines: the row of the law, out of its pure statement (YtfagbgkbmikccaaDoorPureQuoteLines) and the printed walk; its parameters opened by YtfagbgkbmikccaaDoorOpen. -/
import Derived.Test.YtfagbgkbmikccaaDoorTie
import Derived.Test.YtfagbgkbmikccaaDoorCards
import Derived.LaidMore
import Derived.Lay
import Derived.SevenTiedAt
import Derived.Stop.Joined
import Derived.Deep.DeepHandedRow
import Derived.Deep.DeepWitnessRowRef
import Derived.Test.YtfagbgkbmikccaaDoorRows
import Derived.Test.YtfagbgkbmikccaaDoorPQuoteLinesx3
import Derived.Test.YtfagbgkbmikccaaDoorPureQuoteLines
import Derived.Test.YtfagbgkbmikccaaDoorOpen
import Derived.WalkKit
import Derived.ProofKit
import Derived.OpenShut
import Derived.ShutString
import Derived.ChangeOld
import Derived.Below
import Derived.SizedLaws
import Derived.JoinedCond
import Derived.Deep.CondSized
namespace Go.Proofs.YtfagbgkbmikccaaDoor.quoteLines
open Go.ChangeShapes Go.WideShapes Go.ChangeAt Go.RowKit Go.Proofs.YtfagbgkbmikccaaDoorW.PrintWords Go.Proofs.YtfagbgkbmikccaaDoor.PQuoteLines Go.Proofs.YtfagbgkbmikccaaDoor.Opn
open Go.ChangeMaps (open_string shut_string)
set_option linter.unusedVariables false
set_option linter.unusedSimpArgs false
theorem own : ownKnob Tryd.prog.godebug = none := by kernel_rfl
theorem laidOut : laidOutB Tryd.prog = true := by kernel_rfl
set_option maxRecDepth 100000 in
theorem lifted (os : Os) (started : os.Started) (H : Type) (enc : TypeId × Value → H) (F : Stop.Interp) :
    ReturnsInHanded {} Tryd.checked os 3 .any ((Rows.OpenSpec.upto Rows.quoteLinesSpec).preRow enc Tryd.prog Tryd.f3 Rows.quoteLinesUptoRow.domain false Rows.quoteLinesUptoRow.laid) (((Rows.OpenSpec.upto Rows.quoteLinesSpec).at F).post enc Tryd.prog Tryd.f3 false true false false) := by
  refine returnsInHanded_of_row (C := Tryd.checked) (s := Rows.OpenSpec.upto Rows.quoteLinesSpec) own started (by kernel_rfl) Tryd.func3
    (witness_row_atRef (enc := enc) (C := Tryd.checked) false (World.laidAll Tryd.prog os Rows.quoteLinesUptoRow.laid) #[.slice none 0 0] (World.laidAll_os _ _ _) (by kernel_rfl) (by kernel_rfl) (by kernel_rfl)
      (OpenSpec.preRow_of_cond 8 (x := ([.nil], [], [])) (by kernel_rfl) (by kernel_rfl) (fun k hk => by cases hk; kernel_rfl) (by kernel_rfl) (by rw [MakeChecks.laidMetH_plain _ _ _ (by kernel_rfl)]; exact laidMet_laidAll _ (by kernel_rfl) (by kernel_rfl)))) ?_
  intro W base args ds gs before hval0 hW hcnd hkc hsz0 _ _ _
  have hk0 := hkc _ rfl
  have hsz : (DataW.weightsEach Tryd.prog (Tryd.f3.params.toList ++ Rows.quoteLinesSpec.plain.varTypes Tryd.prog) (ds ++ gs)).all (· ≤ reachBytes) = true := hsz0
  have hval : ∀ (j : Nat) t v, Tryd.f3.params[j]? = some t → args[j]? = some v → Value.okWide Tryd.prog W .any base t v := hval0
  have hW' := hW
  obtain ⟨p, q, hA0, hV, rfl, hfz, hnd⟩ := hW
  have hA : DataW.TrodAll enc Tryd.prog W 0 (fun _ => true) true Tryd.f3.params.toList args.toList ds p := hA0
  rw [Tryd.params3] at hA hval hsz
  have hkb : Rows.uptoBulkAll (ds ++ gs) ≤ 1048576 := of_decide_eq_true hk0
  obtain ⟨v0, vs0, d0, ds0, p0, q0, hargs, rfl, rfl, h0, r0⟩ := trodAll_cons hA
  obtain ⟨rfl, rfl, rfl⟩ := trodAll_nil r0
  obtain rfl : args = #[v0] := by cases args; simp_all
  obtain ⟨rfl, rfl⟩ := trodVars_none hV
  have lt0 := trod_blocks h0
  have k0 := h0
  obtain ⟨A0, n0, c0, rfl⟩ := okWide_slice Tryd.underlying22 (hval 0 22 v0 rfl rfl)
  obtain ⟨y0, K0, w0, b0⟩ := Opens.arg (Opens.slice (z := ByteArray.empty) (B := 16) (d := Kd.string) Tryd.underlying22 (by kernel_rfl) (by kernel_rfl) (Opens.string Tryd.underlying9)) hsz (j := 0) (t := 22) rfl rfl h0
  obtain ⟨rfl, hc0, hr0⟩ := slice_of (P := Tryd.prog) (t := 22) K0
  have b0 := Nat.le_trans b0 (bulk_arg hkb (d := d0) (by simp))
  clear hA0 hval0 hsz0 hsz
  obtain ⟨k, hP⟩ := PureQuoteLines.QuoteLines y0 w0 b0
  have hcall : Calls Tryd.prog 3 #[.slice A0 y0.length c0] W fun e w' => e = .returned (.bool true) ∧ Below W.heap.size W w' := by
    refine (PQuoteLines.logbooklaw31_QuoteLines.calls k _ _ y0 true W hr0 hc0 hP).mono ?_
    rintro e w' ⟨rfl, hd⟩
    exact ⟨rfl, hd⟩
  refine hcall.mono fun e W' ⟨he, bel⟩ => ?_
  subst he
  exact ⟨_, rfl, _, _, _, [], _, [], hW', trodAll_mk1 (shut_bool Tryd.underlying4 _), (trodAll_cons_mk (Below.trod laidOut (by kernel_rfl) (of_decide_eq_true (by kernel_rfl)) k0 bel lt0) trodAll_mk0), rfl, bel.frame _, fun h => by cases h⟩
theorem over : Rows.quoteLinesUptoRow.holds Tryd.pinned (Rows.OpenSpec.upto Rows.quoteLinesSpec) :=
  OpenClaim.holds_of_cond 3 Tryd.f3 rfl rfl rfl rfl rfl rfl rfl ⟨rfl, rfl, rfl, rfl, rfl⟩ rfl rfl rfl rfl rfl (by kernel_rfl) Tryd.func3 (by kernel_rfl)
    (of_decide_eq_true (by kernel_rfl)) (by unfold Func.isWrapper; first | (rw [if_pos (by decide +kernel)]; kernel_rfl) | (rw [if_neg (by decide +kernel)]; exact ⟨rfl, rfl⟩))
    (fun os started H enc _ F => by rw [OpenClaim.pre_eq_preRow]; exact lifted os started H enc F)
theorem card : Rows.QuoteLinesUptoCardSaid :=
  Claim7.holds_tied_plain_at .later [] [.data, .pinned] true (true, "302ce016a76904df34004cabe761b82dc2e1385149891544846719930e9f834e") false over (fun _ h => by cases h) (by kernel_rfl) (fun _ h => by cases h) quoteLinesUpto_row_tie rfl ⟨rfl, rfl⟩ (by kernel_rfl) rfl
    (fun f fn hf hfn => by
      obtain rfl : f = 3 := Option.some.inj ((show Tryd.prog.funcNamed "logbook/logbooklaw31.QuoteLines" = some 3 by kernel_rfl).symm.trans hf) |>.symm
      obtain rfl : fn = Tryd.f3 := (Option.some.inj (Tryd.func3.symm.trans hfn)).symm
      exact ⟨by kernel_rfl, fun j t ht => by
        rw [Tryd.params3] at ht
        have hm : t ∈ [22] := by simpa using Array.mem_of_getElem? ht
        have hall : ([22].all fun u => !Tryd.prog.wantsStandIn u) = true := by kernel_rfl
        exact (show Tryd.prog.wantsStandIn t = false by simpa using List.all_eq_true.1 hall t hm)⟩)
    (by kernel_rfl)
#print axioms card
end Go.Proofs.YtfagbgkbmikccaaDoor.quoteLines
namespace Go.Proofs.YtfagbgkbmikccaaDoor
/-- The card, under a short name, for the claim. -/
theorem quoteLines_holds : Rows.QuoteLinesUptoCardSaid := quoteLines.card
end Go.Proofs.YtfagbgkbmikccaaDoor
