/- OpWrites: the row and its tied card. -/
/- OpWrites: the row of the law, out of its pure statement (YtfhnmcjajpnhpaaDoorPureOpWrites) and the printed walk; its parameters opened by YtfhnmcjajpnhpaaDoorOpen. -/
import Derived.Test.YtfhnmcjajpnhpaaDoorTie
import Derived.Test.YtfhnmcjajpnhpaaDoorCards
import Derived.LaidMore
import Derived.Lay
import Derived.SevenTiedAt
import Derived.Stop.Joined
import Derived.Deep.DeepHandedRow
import Derived.Deep.DeepWitnessRowRef
import Derived.Test.YtfhnmcjajpnhpaaDoorRows
import Derived.Test.YtfhnmcjajpnhpaaDoorPOpWritesx7
import Derived.Test.YtfhnmcjajpnhpaaDoorPureOpWrites
import Derived.Test.YtfhnmcjajpnhpaaDoorOpen
import Derived.WalkKit
import Derived.ProofKit
import Derived.OpenShut
import Derived.ShutString
import Derived.ChangeOld
import Derived.Below
import Derived.SizedLaws
import Derived.JoinedCond
import Derived.Deep.CondSized
namespace Go.Proofs.YtfhnmcjajpnhpaaDoor.opWrites
open Go.ChangeShapes Go.WideShapes Go.ChangeAt Go.RowKit Go.Proofs.YtfhnmcjajpnhpaaDoorW.PrintWords Go.Proofs.YtfhnmcjajpnhpaaDoor.POpWrites Go.Proofs.YtfhnmcjajpnhpaaDoor.Opn
open Go.ChangeMaps (open_string shut_string)
set_option linter.unusedVariables false
set_option linter.unusedSimpArgs false
theorem own : ownKnob Tryd.prog.godebug = none := by kernel_rfl
theorem laidOut : laidOutB Tryd.prog = true := by kernel_rfl
set_option maxRecDepth 100000 in
theorem lifted (os : Os) (started : os.Started) (H : Type) (enc : TypeId × Value → H) (F : Stop.Interp) :
    ReturnsInHanded {} Tryd.checked os 5 .any ((Rows.OpenSpec.upto Rows.opWritesSpec).preRow enc Tryd.prog Tryd.f5 Rows.opWritesUptoRow.domain false Rows.opWritesUptoRow.laid) (((Rows.OpenSpec.upto Rows.opWritesSpec).at F).post enc Tryd.prog Tryd.f5 false true false false) := by
  refine returnsInHanded_of_row (C := Tryd.checked) (s := Rows.OpenSpec.upto Rows.opWritesSpec) own started (by kernel_rfl) Tryd.func5
    (witness_row_atRef (enc := enc) (C := Tryd.checked) false (World.laidAll Tryd.prog os Rows.opWritesUptoRow.laid) #[.agg #[.int .i64 0, .slice none 0 0, .slice none 0 0]] (World.laidAll_os _ _ _) (by kernel_rfl) (by kernel_rfl) (by kernel_rfl)
      (OpenSpec.preRow_of_cond 8 (x := ([.agg [.lit (.int .i64 0), .nil, .nil]], [], [])) (by kernel_rfl) (by kernel_rfl) (fun k hk => by cases hk; kernel_rfl) (by kernel_rfl) (by rw [MakeChecks.laidMetH_plain _ _ _ (by kernel_rfl)]; exact laidMet_laidAll _ (by kernel_rfl) (by kernel_rfl)))) ?_
  intro W base args ds gs before hval0 hW hcnd hkc hsz0 _ _ _
  have hk0 := hkc _ rfl
  have hsz : (DataW.weightsEach Tryd.prog (Tryd.f5.params.toList ++ Rows.opWritesSpec.plain.varTypes Tryd.prog) (ds ++ gs)).all (· ≤ reachBytes) = true := hsz0
  have hval : ∀ (j : Nat) t v, Tryd.f5.params[j]? = some t → args[j]? = some v → Value.okWide Tryd.prog W .any base t v := hval0
  have hW' := hW
  obtain ⟨p, q, hA0, hV, rfl, hfz, hnd⟩ := hW
  have hA : DataW.TrodAll enc Tryd.prog W 0 (fun _ => true) true Tryd.f5.params.toList args.toList ds p := hA0
  rw [Tryd.params5] at hA hval hsz
  have hkb : Rows.uptoBulkAll (ds ++ gs) ≤ 1048576 := of_decide_eq_true hk0
  obtain ⟨v0, vs0, d0, ds0, p0, q0, hargs, rfl, rfl, h0, r0⟩ := trodAll_cons hA
  obtain ⟨rfl, rfl, rfl⟩ := trodAll_nil r0
  obtain rfl : args = #[v0] := by cases args; simp_all
  obtain ⟨rfl, rfl⟩ := trodVars_none hV
  have lt0 := trod_blocks h0
  have k0 := h0
  obtain ⟨cs0, rfl, hcs0⟩ := okWide_struct Tryd.underlying30 (hval 0 30 v0 rfl rfl)
  obtain ⟨y0, K0, w0, b0⟩ := Opens.arg (Opens.struct (d := (Kd.pair (Kd.int .i64) (Kd.pair (Kd.slice 47 (Kd.int .u64)) (Kd.slice 9 Kd.string)))) (fun x : S30 => (x.f0, x.f1, x.f2)) (fun p => (⟨p.1, p.2.1, p.2.2⟩ : S30)) (fun _ => rfl) Tryd.underlying30 (by kernel_rfl) (OpensFs.cons rfl rfl (by kernel_rfl) (Opens.int Tryd.underlying3) (OpensFs.cons rfl rfl (by kernel_rfl) (Opens.slice (z := (0 : Int)) (B := 8) (d := (Kd.int .u64)) Tryd.underlying23 (by kernel_rfl) (by kernel_rfl) (Opens.int Tryd.underlying47)) (OpensFs.one rfl rfl (by kernel_rfl) (Opens.slice (z := ByteArray.empty) (B := 16) (d := Kd.string) Tryd.underlying24 (by kernel_rfl) (by kernel_rfl) (Opens.string Tryd.underlying9)))))) hsz (j := 0) (t := 30) rfl rfl h0
  have b0 := Nat.le_trans b0 (bulk_arg hkb (d := d0) (by simp))
  obtain ⟨_, _, E0, rfl, ⟨_, _, rfl, ⟨A0_1, c0_1, rfl, hc0_1, hr0_1⟩, ⟨A0_2, c0_2, rfl, hc0_2, hr0_2⟩⟩⟩ := K0
  have E0' : Value.agg cs0 = .agg #[.int .i64 y0.f0, .slice A0_1 y0.f1.length c0_1, .slice A0_2 y0.f2.length c0_2] := agg_of (l := [.int .i64 y0.f0, .slice A0_1 y0.f1.length c0_1, .slice A0_2 y0.f2.length c0_2]) E0
  clear hA0 hval0 hsz0 hsz
  obtain ⟨k, hP⟩ := PureOpWrites.OpWrites y0 w0 b0
  have hcall : Calls Tryd.prog 5 #[Value.agg cs0] W fun e w' => e = .returned (.bool true) ∧ Below W.heap.size W w' := by
    rw [E0']
    refine (POpWrites.logbooklaw46_OpWrites.calls k y0.f0 _ _ y0.f1 _ _ y0.f2 true W hr0_1 hc0_1 hr0_2 hc0_2 hP).mono ?_
    rintro e w' ⟨rfl, hd⟩
    exact ⟨rfl, hd⟩
  refine hcall.mono fun e W' ⟨he, bel⟩ => ?_
  subst he
  exact ⟨_, rfl, _, _, _, [], _, [], hW', trodAll_mk1 (shut_bool Tryd.underlying4 _), (trodAll_cons_mk (Below.trod laidOut (by kernel_rfl) (of_decide_eq_true (by kernel_rfl)) k0 bel lt0) trodAll_mk0), rfl, bel.frame _, fun h => by cases h⟩
theorem over : Rows.opWritesUptoRow.holds Tryd.pinned (Rows.OpenSpec.upto Rows.opWritesSpec) :=
  OpenClaim.holds_of_cond 5 Tryd.f5 rfl rfl rfl rfl rfl rfl rfl ⟨rfl, rfl, rfl, rfl, rfl⟩ rfl rfl rfl rfl rfl (by kernel_rfl) Tryd.func5 (by kernel_rfl)
    (of_decide_eq_true (by kernel_rfl)) (by unfold Func.isWrapper; first | (rw [if_pos (by decide +kernel)]; kernel_rfl) | (rw [if_neg (by decide +kernel)]; exact ⟨rfl, rfl⟩))
    (fun os started H enc _ F => by rw [OpenClaim.pre_eq_preRow]; exact lifted os started H enc F)
theorem card : Rows.OpWritesUptoCardSaid :=
  Claim7.holds_tied_plain_at .later [] [.data, .pinned] true (true, "01181a4e1d7b705afbdfba1b1ebe0422abff89dfbaae03df3a8fcbb181b82ace") false over (fun _ h => by cases h) (by kernel_rfl) (fun _ h => by cases h) opWritesUpto_row_tie rfl ⟨rfl, rfl⟩ (by kernel_rfl) rfl
    (fun f fn hf hfn => by
      obtain rfl : f = 5 := Option.some.inj ((show Tryd.prog.funcNamed "logbook/logbooklaw46.OpWrites" = some 5 by kernel_rfl).symm.trans hf) |>.symm
      obtain rfl : fn = Tryd.f5 := (Option.some.inj (Tryd.func5.symm.trans hfn)).symm
      exact ⟨by kernel_rfl, fun j t ht => by
        rw [Tryd.params5] at ht
        have hm : t ∈ [30] := by simpa using Array.mem_of_getElem? ht
        have hall : ([30].all fun u => !Tryd.prog.wantsStandIn u) = true := by kernel_rfl
        exact (show Tryd.prog.wantsStandIn t = false by simpa using List.all_eq_true.1 hall t hm)⟩)
    (by kernel_rfl)
#print axioms card
end Go.Proofs.YtfhnmcjajpnhpaaDoor.opWrites
namespace Go.Proofs.YtfhnmcjajpnhpaaDoor
/-- The card, under a short name, for the claim. -/
theorem opWrites_holds : Rows.OpWritesUptoCardSaid := opWrites.card
end Go.Proofs.YtfhnmcjajpnhpaaDoor
