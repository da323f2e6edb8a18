/- FormatVerbose: the row of the law, out of its pure statement (YtbakfpiflcaacaaPureFormatVerbose) and the printed walk; its parameters opened by YtbakfpiflcaacaaOpen. -/
import Derived.Test.YtbakfpiflcaacaaRows
import Derived.Test.YtbakfpiflcaacaaPFormatVerbosex11
import Derived.Test.YtbakfpiflcaacaaPureFormatVerbose
import Derived.Test.YtbakfpiflcaacaaOpen
import Derived.WalkKit
import Derived.ProofKit
import Derived.OpenShut
import Derived.ShutString
import Derived.ChangeOld
import Derived.Below
import Derived.SizedLaws
namespace Go.Proofs.Ytbakfpiflcaacaa.formatVerbose
open Go.ChangeShapes Go.WideShapes Go.ChangeAt Go.RowKit Go.Proofs.YtbakfpiflcaacaaW.PrintWords Go.Proofs.Ytbakfpiflcaacaa.PFormatVerbose Go.Proofs.Ytbakfpiflcaacaa.Opn
open Go.ChangeMaps (open_string shut_string)
set_option linter.unusedVariables false
set_option linter.unusedSimpArgs false
theorem own : ownKnob Try.prog.godebug = none := by kernel_rfl
theorem laidOut : laidOutB Try.prog = true := by kernel_rfl
set_option maxRecDepth 100000 in
theorem lifted (os : Os) (started : os.Started) (H : Type) (enc : TypeId × Value → H) :
    ReturnsInHanded {} Try.checked os 6 .any (Rows.formatVerboseSpec.pre6 enc Try.prog Try.f6 Rows.formatVerboseRow.domain false) (Rows.formatVerboseSpec.post enc Try.prog Try.f6 false true false false) := by
  refine returnsInHanded_of_change_sized (C := Try.checked) own started (by kernel_rfl) Try.func6
    (ChangeSpec.witness6 (enc := enc) (C := Try.checked) false ⟨#[], #[.agg #[.int .u64 0, .int .u64 0, .int .u64 0, .int .u64 0, .slice none 0 0]], []⟩ 8 (by kernel_rfl) (by kernel_rfl) (by kernel_rfl) (by kernel_rfl)) ?_
  intro W base args ds gs before hval0 hW hcnd hsz0 _
  have hsz : (DataW.weightsEach Try.prog (Try.f6.params.toList ++ Rows.formatVerboseSpec.plain.varTypes Try.prog) (ds ++ gs)).all (· ≤ reachBytes) = true := hsz0
  have hval : ∀ (j : Nat) t v, Try.f6.params[j]? = some t → args[j]? = some v → Value.okWide Try.prog W .any base t v := hval0
  have hW' := hW
  obtain ⟨p, q, hA0, hV, rfl, hfz, hnd⟩ := hW
  have hA : DataW.TrodAll enc Try.prog W 0 (fun _ => true) true Try.f6.params.toList args.toList ds p := hA0
  rw [Try.params6] at hA hval hsz
  obtain ⟨v0, vs0, d0, ds0, p0, q0, hargs, rfl, rfl, h0, r0⟩ := trodAll_cons hA
  obtain ⟨rfl, rfl, rfl⟩ := trodAll_nil r0
  obtain rfl : args = #[v0] := by cases args; simp_all
  obtain ⟨rfl, rfl⟩ := trodVars_none hV
  have lt0 := trod_blocks h0
  have k0 := h0
  obtain ⟨cs0, rfl, hcs0⟩ := okWide_struct Try.underlying29 (hval 0 29 v0 rfl rfl)
  obtain ⟨y0, K0, w0, b0⟩ := Opens.arg (Opens.struct (d := (Kd.pair (Kd.int .u64) (Kd.pair (Kd.int .u64) (Kd.pair (Kd.int .u64) (Kd.pair (Kd.int .u64) (Kd.slice 9 Kd.string)))))) (fun p => p) (fun p => p) (fun _ => rfl) Try.underlying29 (by kernel_rfl) (OpensFs.cons rfl rfl (by kernel_rfl) (Opens.int Try.underlying22) (OpensFs.cons rfl rfl (by kernel_rfl) (Opens.int Try.underlying22) (OpensFs.cons rfl rfl (by kernel_rfl) (Opens.int Try.underlying22) (OpensFs.cons rfl rfl (by kernel_rfl) (Opens.int Try.underlying22) (OpensFs.one rfl rfl (by kernel_rfl) (Opens.slice (z := ByteArray.empty) (B := 16) (d := Kd.string) Try.underlying27 (by kernel_rfl) (by kernel_rfl) (Opens.string Try.underlying9)))))))) hsz (j := 0) (t := 29) rfl rfl h0
  obtain ⟨_, _, E0, rfl, ⟨_, _, rfl, rfl, ⟨_, _, rfl, rfl, ⟨_, _, rfl, rfl, ⟨A0_4, c0_4, rfl, hc0_4, hr0_4⟩⟩⟩⟩⟩ := K0
  have E0' : Value.agg cs0 = .agg #[.int .u64 y0.1, .int .u64 y0.2.1, .int .u64 y0.2.2.1, .int .u64 y0.2.2.2.1, .slice A0_4 y0.2.2.2.2.length c0_4] := agg_of (l := [.int .u64 y0.1, .int .u64 y0.2.1, .int .u64 y0.2.2.1, .int .u64 y0.2.2.2.1, .slice A0_4 y0.2.2.2.2.length c0_4]) E0
  clear hA0 hval0 hsz0 hsz
  obtain ⟨k, hP⟩ := PureFormatVerbose.FormatVerbose y0 w0
  have hcall : Calls Try.prog 6 #[Value.agg cs0] W fun e w' => e = .returned (.bool true) ∧ Below W.heap.size W w' := by
    rw [E0']
    refine (PFormatVerbose.logbooklaw40_FormatVerbose.calls k y0.1 y0.2.1 y0.2.2.1 y0.2.2.2.1 _ _ y0.2.2.2.2 true W hr0_4 hc0_4 hP).mono ?_
    rintro e w' ⟨rfl, hd⟩
    exact ⟨rfl, hd⟩
  refine hcall.mono fun e W' ⟨he, bel⟩ => ?_
  subst he
  exact ⟨_, rfl, _, _, _, [], _, [], hW', trodAll_mk1 (shut_bool Try.underlying4 _), (trodAll_cons_mk (Below.trod laidOut (by kernel_rfl) (of_decide_eq_true (by kernel_rfl)) k0 bel lt0) trodAll_mk0), rfl, bel.frame _, fun h => by cases h⟩
theorem over : Rows.formatVerboseRow.holds Try.pinned (OpenSpec.ofChange Rows.formatVerboseSpec) :=
  OpenClaim.holds_of_wide 6 Try.f6 rfl rfl rfl rfl rfl rfl rfl ⟨rfl, rfl, rfl, rfl, rfl⟩ rfl rfl rfl rfl rfl (by kernel_rfl) Try.func6 (by kernel_rfl)
    (of_decide_eq_true (by kernel_rfl)) (by unfold Func.isWrapper; first | (rw [if_pos (by decide +kernel)]; kernel_rfl) | (rw [if_neg (by decide +kernel)]; exact ⟨rfl, rfl⟩))
    (fun os started H enc _ => lifted os started H enc)
theorem proved : Rows.FormatVerboseSaid := over
#print axioms proved
end Go.Proofs.Ytbakfpiflcaacaa.formatVerbose
namespace Go.Proofs.Ytbakfpiflcaacaa
/-- The row, under a short name, for the claim. -/
theorem formatVerbose_holds : Rows.FormatVerboseSaid := formatVerbose.proved
end Go.Proofs.Ytbakfpiflcaacaa
