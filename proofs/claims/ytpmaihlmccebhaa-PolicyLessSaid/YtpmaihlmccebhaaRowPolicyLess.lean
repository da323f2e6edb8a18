/- PolicyLess: the row of the law, out of its pure statement (YtpmaihlmccebhaaPurePolicyLess) and the printed walk; its parameters opened by YtpmaihlmccebhaaOpen. -/
import Derived.Test.YtpmaihlmccebhaaRows
import Derived.Test.YtpmaihlmccebhaaPPolicyLessx3
import Derived.Test.YtpmaihlmccebhaaPurePolicyLess
import Derived.Test.YtpmaihlmccebhaaOpen
import Derived.WalkKit
import Derived.ProofKit
import Derived.OpenShut
import Derived.ShutString
import Derived.ChangeOld
import Derived.Below
import Derived.SizedLaws
namespace Go.Proofs.Ytpmaihlmccebhaa.policyLess
open Go.ChangeShapes Go.WideShapes Go.ChangeAt Go.RowKit Go.Proofs.YtpmaihlmccebhaaW.PrintWords Go.Proofs.Ytpmaihlmccebhaa.PPolicyLess Go.Proofs.Ytpmaihlmccebhaa.Opn
open Go.ChangeMaps (open_string shut_string)
set_option linter.unusedVariables false
set_option linter.unusedSimpArgs false
theorem own : ownKnob Try.prog.godebug = none := by kernel_rfl
theorem laidOut : laidOutB Try.prog = true := by kernel_rfl
set_option maxRecDepth 100000 in
theorem lifted (os : Os) (started : os.Started) (H : Type) (enc : TypeId × Value → H) :
    ReturnsInHanded {} Try.checked os 4 .any (Rows.policyLessSpec.pre6 enc Try.prog Try.f4 Rows.policyLessRow.domain false) (Rows.policyLessSpec.post enc Try.prog Try.f4 false true false false) := by
  refine returnsInHanded_of_change_sized (C := Try.checked) own started (by kernel_rfl) Try.func4
    (ChangeSpec.witness6 (enc := enc) (C := Try.checked) false ⟨#[], #[.agg #[.int .i64 0, .int .i64 0, .int .u64 0], .int .i64 0, .int .u64 0, .slice none 0 0, .int .u8 0, .int .u16 0], []⟩ 8 (by kernel_rfl) (by kernel_rfl) (by kernel_rfl) (by kernel_rfl)) ?_
  intro W base args ds gs before hval0 hW hcnd hsz0 _
  have hsz : (DataW.weightsEach Try.prog (Try.f4.params.toList ++ Rows.policyLessSpec.plain.varTypes Try.prog) (ds ++ gs)).all (· ≤ reachBytes) = true := hsz0
  have hval : ∀ (j : Nat) t v, Try.f4.params[j]? = some t → args[j]? = some v → Value.okWide Try.prog W .any base t v := hval0
  have hW' := hW
  obtain ⟨p, q, hA0, hV, rfl, hfz, hnd⟩ := hW
  have hA : DataW.TrodAll enc Try.prog W 0 (fun _ => true) true Try.f4.params.toList args.toList ds p := hA0
  rw [Try.params4] at hA hval hsz
  obtain ⟨v0, vs0, d0, ds0, p0, q0, hargs, rfl, rfl, h0, r0⟩ := trodAll_cons hA
  obtain ⟨v1, vs1, d1, ds1, p1, q1, rfl, rfl, rfl, h1, r1⟩ := trodAll_cons r0
  obtain ⟨v2, vs2, d2, ds2, p2, q2, rfl, rfl, rfl, h2, r2⟩ := trodAll_cons r1
  obtain ⟨v3, vs3, d3, ds3, p3, q3, rfl, rfl, rfl, h3, r3⟩ := trodAll_cons r2
  obtain ⟨v4, vs4, d4, ds4, p4, q4, rfl, rfl, rfl, h4, r4⟩ := trodAll_cons r3
  obtain ⟨v5, vs5, d5, ds5, p5, q5, rfl, rfl, rfl, h5, r5⟩ := trodAll_cons r4
  obtain ⟨rfl, rfl, rfl⟩ := trodAll_nil r5
  obtain rfl : args = #[v0, v1, v2, v3, v4, v5] := by cases args; simp_all
  obtain ⟨rfl, rfl⟩ := trodVars_none hV
  have lt0 := trod_blocks h0
  have k0 := h0
  obtain ⟨cs0, rfl, hcs0⟩ := okWide_struct Try.underlying24 (hval 0 24 v0 rfl rfl)
  obtain ⟨y0, K0, w0, b0⟩ := Opens.arg (Opens.struct (d := (Kd.pair (Kd.int .i64) (Kd.pair (Kd.int .i64) (Kd.int .u64)))) (fun p => p) (fun p => p) (fun _ => rfl) Try.underlying24 (by kernel_rfl) (OpensFs.cons rfl rfl (by kernel_rfl) (Opens.int Try.underlying3) (OpensFs.cons rfl rfl (by kernel_rfl) (Opens.int Try.underlying3) (OpensFs.one rfl rfl (by kernel_rfl) (Opens.int Try.underlying22))))) hsz (j := 0) (t := 24) rfl rfl h0
  obtain ⟨_, _, E0, rfl, ⟨_, _, rfl, rfl, rfl⟩⟩ := K0
  have E0' : Value.agg cs0 = .agg #[.int .i64 y0.1, .int .i64 y0.2.1, .int .u64 y0.2.2] := agg_of (l := [.int .i64 y0.1, .int .i64 y0.2.1, .int .u64 y0.2.2]) E0
  have lt1 := trod_blocks h1
  have k1 := h1
  obtain ⟨y1, rfl, rfl, rfl, w1⟩ := open_int Try.underlying3 (hval 1 3 v1 rfl rfl) h1
  have lt2 := trod_blocks h2
  have k2 := h2
  obtain ⟨y2, rfl, rfl, rfl, w2⟩ := open_int Try.underlying22 (hval 2 22 v2 rfl rfl) h2
  have lt3 := trod_blocks h3
  have k3 := h3
  obtain ⟨A3, n3, c3, rfl⟩ := okWide_slice Try.underlying25 (hval 3 25 v3 rfl rfl)
  obtain ⟨y3, K3, w3, b3⟩ := Opens.arg (Opens.slice (z := z36) (B := 16) (d := k36) Try.underlying25 (by kernel_rfl) (by kernel_rfl) (Opens.struct (d := (Kd.pair (Kd.int .i64) (Kd.int .u64))) (fun x : S36 => (x.f0, x.f1)) (fun p => (⟨p.1, p.2⟩ : S36)) (fun _ => rfl) Try.underlying36 (by kernel_rfl) (OpensFs.cons rfl rfl (by kernel_rfl) (Opens.int Try.underlying3) (OpensFs.one rfl rfl (by kernel_rfl) (Opens.int Try.underlying22))))) hsz (j := 3) (t := 25) rfl rfl h3
  obtain ⟨rfl, hc3, hr3⟩ := slice_of (P := Try.prog) (t := 25) K3
  have lt4 := trod_blocks h4
  have k4 := h4
  obtain ⟨y4, rfl, rfl, rfl, w4⟩ := open_int Try.underlying5 (hval 4 5 v4 rfl rfl) h4
  have lt5 := trod_blocks h5
  have k5 := h5
  obtain ⟨y5, rfl, rfl, rfl, w5⟩ := open_int Try.underlying38 (hval 5 38 v5 rfl rfl) h5
  clear hA0 hval0 hsz0 hsz
  obtain ⟨k, hP⟩ := PurePolicyLess.PolicyLess y0 y1 y2 y3 y4 y5 w0 w1 w2 w3 w4 w5
  have hcall : Calls Try.prog 4 #[Value.agg cs0, .int .i64 y1, .int .u64 y2, .slice A3 y3.length c3, .int .u8 y4, .int .u16 y5] W fun e w' => e = .returned (.bool true) ∧ Below W.heap.size W w' := by
    rw [E0']
    refine (PPolicyLess.logbooklaw23_PolicyLess.calls k y0.1 y0.2.1 y0.2.2 y1 y2 _ _ y3 y4 y5 true W hr3 hc3 hP).mono ?_
    rintro e w' ⟨rfl, hd⟩
    exact ⟨rfl, hd⟩
  refine hcall.mono fun e W' ⟨he, bel⟩ => ?_
  subst he
  exact ⟨_, rfl, _, _, _, [], _, [], hW', trodAll_mk1 (shut_bool Try.underlying4 _), (trodAll_cons_mk (Below.trod laidOut (by kernel_rfl) (of_decide_eq_true (by kernel_rfl)) k0 bel lt0) (trodAll_cons_mk (Below.trod laidOut (by kernel_rfl) (of_decide_eq_true (by kernel_rfl)) k1 bel lt1) (trodAll_cons_mk (Below.trod laidOut (by kernel_rfl) (of_decide_eq_true (by kernel_rfl)) k2 bel lt2) (trodAll_cons_mk (Below.trod laidOut (by kernel_rfl) (of_decide_eq_true (by kernel_rfl)) k3 bel lt3) (trodAll_cons_mk (Below.trod laidOut (by kernel_rfl) (of_decide_eq_true (by kernel_rfl)) k4 bel lt4) (trodAll_cons_mk (Below.trod laidOut (by kernel_rfl) (of_decide_eq_true (by kernel_rfl)) k5 bel lt5) trodAll_mk0)))))), rfl, bel.frame _, fun h => by cases h⟩
theorem over : Rows.policyLessRow.holds Try.pinned (OpenSpec.ofChange Rows.policyLessSpec) :=
  OpenClaim.holds_of_wide 4 Try.f4 rfl rfl rfl rfl rfl rfl rfl ⟨rfl, rfl, rfl, rfl, rfl⟩ rfl rfl rfl rfl rfl (by kernel_rfl) Try.func4 (by kernel_rfl)
    (of_decide_eq_true (by kernel_rfl)) (by unfold Func.isWrapper; first | (rw [if_pos (by decide +kernel)]; kernel_rfl) | (rw [if_neg (by decide +kernel)]; exact ⟨rfl, rfl⟩))
    (fun os started H enc _ => lifted os started H enc)
theorem proved : Rows.PolicyLessSaid := over
#print axioms proved
end Go.Proofs.Ytpmaihlmccebhaa.policyLess
namespace Go.Proofs.Ytpmaihlmccebhaa
/-- The row, under a short name, for the claim. -/
theorem policyLess_holds : Rows.PolicyLessSaid := policyLess.proved
end Go.Proofs.Ytpmaihlmccebhaa
