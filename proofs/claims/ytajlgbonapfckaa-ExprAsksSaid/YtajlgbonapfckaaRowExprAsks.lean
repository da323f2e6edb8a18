/- ExprAsks: the row of the law, out of its pure statement (YtajlgbonapfckaaPureExprAsks) and the printed walk; its parameters opened by YtajlgbonapfckaaOpen. -/
import Derived.Test.YtajlgbonapfckaaRows
import Derived.Test.YtajlgbonapfckaaPExprAsksx9
import Derived.Test.YtajlgbonapfckaaPureExprAsks
import Derived.Test.YtajlgbonapfckaaOpen
import Derived.WalkKit
import Derived.ProofKit
import Derived.OpenShut
import Derived.ShutString
import Derived.ChangeOld
import Derived.Below
import Derived.SizedLaws
namespace Go.Proofs.Ytajlgbonapfckaa.exprAsks
open Go.ChangeShapes Go.WideShapes Go.ChangeAt Go.RowKit Go.Proofs.YtajlgbonapfckaaW.PrintWords Go.Proofs.Ytajlgbonapfckaa.PExprAsks Go.Proofs.Ytajlgbonapfckaa.Opn
open Go.ChangeMaps (open_string shut_string)
set_option linter.unusedVariables false
set_option linter.unusedSimpArgs false
theorem own : ownKnob Try.prog.godebug = none := by kernel_rfl
theorem laidOut : laidOutB Try.prog = true := by kernel_rfl
set_option maxRecDepth 100000 in
theorem lifted (os : Os) (started : os.Started) (H : Type) (enc : TypeId × Value → H) :
    ReturnsInHanded {} Try.checked os 3 .any (Rows.exprAsksSpec.pre6 enc Try.prog Try.f3 Rows.exprAsksRow.domain false) (Rows.exprAsksSpec.post enc Try.prog Try.f3 false true false false) := by
  refine returnsInHanded_of_change_sized (C := Try.checked) own started (by kernel_rfl) Try.func3
    (ChangeSpec.witness6 (enc := enc) (C := Try.checked) false ⟨#[], #[.slice none 0 0, .slice none 0 0], []⟩ 8 (by kernel_rfl) (by kernel_rfl) (by kernel_rfl) (by kernel_rfl)) ?_
  intro W base args ds gs before hval0 hW hcnd hsz0 _
  have hsz : (DataW.weightsEach Try.prog (Try.f3.params.toList ++ Rows.exprAsksSpec.plain.varTypes Try.prog) (ds ++ gs)).all (· ≤ reachBytes) = true := hsz0
  have hval : ∀ (j : Nat) t v, Try.f3.params[j]? = some t → args[j]? = some v → Value.okWide Try.prog W .any base t v := hval0
  have hW' := hW
  obtain ⟨p, q, hA0, hV, rfl, hfz, hnd⟩ := hW
  have hA : DataW.TrodAll enc Try.prog W 0 (fun _ => true) true Try.f3.params.toList args.toList ds p := hA0
  rw [Try.params3] at hA hval hsz
  obtain ⟨v0, vs0, d0, ds0, p0, q0, hargs, rfl, rfl, h0, r0⟩ := trodAll_cons hA
  obtain ⟨v1, vs1, d1, ds1, p1, q1, rfl, rfl, rfl, h1, r1⟩ := trodAll_cons r0
  obtain ⟨rfl, rfl, rfl⟩ := trodAll_nil r1
  obtain rfl : args = #[v0, v1] := by cases args; simp_all
  obtain ⟨rfl, rfl⟩ := trodVars_none hV
  have lt0 := trod_blocks h0
  have k0 := h0
  obtain ⟨A0, n0, c0, rfl⟩ := okWide_slice Try.underlying22 (hval 0 22 v0 rfl rfl)
  obtain ⟨y0, K0, w0, b0⟩ := Opens.arg (Opens.slice (z := z35) (B := 24) (d := k35) Try.underlying22 (by kernel_rfl) (by kernel_rfl) (Opens.struct (d := (Kd.pair (Kd.int .i64) Kd.string)) (fun x : S35 => (x.f0, x.f1)) (fun p => (⟨p.1, p.2⟩ : S35)) (fun _ => rfl) Try.underlying35 (by kernel_rfl) (OpensFs.cons rfl rfl (by kernel_rfl) (Opens.int Try.underlying3) (OpensFs.one rfl rfl (by kernel_rfl) (Opens.string Try.underlying9))))) hsz (j := 0) (t := 22) rfl rfl h0
  obtain ⟨rfl, hc0, hr0⟩ := slice_of (P := Try.prog) (t := 22) K0
  have lt1 := trod_blocks h1
  have k1 := h1
  obtain ⟨A1, n1, c1, rfl⟩ := okWide_slice Try.underlying23 (hval 1 23 v1 rfl rfl)
  obtain ⟨y1, K1, w1, b1⟩ := Opens.arg (Opens.slice (z := ([] : List (ByteArray))) (B := 24) (d := (Kd.slice 9 Kd.string)) Try.underlying23 (by kernel_rfl) (by kernel_rfl) (Opens.slice (z := ByteArray.empty) (B := 16) (d := Kd.string) Try.underlying31 (by kernel_rfl) (by kernel_rfl) (Opens.string Try.underlying9))) hsz (j := 1) (t := 23) rfl rfl h1
  obtain ⟨rfl, hc1, hr1⟩ := slice_of (P := Try.prog) (t := 23) K1
  clear hA0 hval0 hsz0 hsz
  obtain ⟨k, hP⟩ := PureExprAsks.ExprAsks y0 y1 w0 w1
  have hcall : Calls Try.prog 3 #[.slice A0 y0.length c0, .slice A1 y1.length c1] W fun e w' => e = .returned (.bool true) ∧ Below W.heap.size W w' := by
    refine (PExprAsks.logbooklaw26_ExprAsks.calls k _ _ y0 _ _ y1 true W hr0 hc0 hr1 hc1 hP).mono ?_
    rintro e w' ⟨rfl, hd⟩
    exact ⟨rfl, hd⟩
  refine hcall.mono fun e W' ⟨he, bel⟩ => ?_
  subst he
  exact ⟨_, rfl, _, _, _, [], _, [], hW', trodAll_mk1 (shut_bool Try.underlying4 _), (trodAll_cons_mk (Below.trod laidOut (by kernel_rfl) (of_decide_eq_true (by kernel_rfl)) k0 bel lt0) (trodAll_cons_mk (Below.trod laidOut (by kernel_rfl) (of_decide_eq_true (by kernel_rfl)) k1 bel lt1) trodAll_mk0)), rfl, bel.frame _, fun h => by cases h⟩
theorem over : Rows.exprAsksRow.holds Try.pinned (OpenSpec.ofChange Rows.exprAsksSpec) :=
  OpenClaim.holds_of_wide 3 Try.f3 rfl rfl rfl rfl rfl rfl rfl ⟨rfl, rfl, rfl, rfl, rfl⟩ rfl rfl rfl rfl rfl (by kernel_rfl) Try.func3 (by kernel_rfl)
    (of_decide_eq_true (by kernel_rfl)) (by unfold Func.isWrapper; first | (rw [if_pos (by decide +kernel)]; kernel_rfl) | (rw [if_neg (by decide +kernel)]; exact ⟨rfl, rfl⟩))
    (fun os started H enc _ => lifted os started H enc)
theorem proved : Rows.ExprAsksSaid := over
#print axioms proved
end Go.Proofs.Ytajlgbonapfckaa.exprAsks
namespace Go.Proofs.Ytajlgbonapfckaa
/-- The row, under a short name, for the claim. -/
theorem exprAsks_holds : Rows.ExprAsksSaid := exprAsks.proved
end Go.Proofs.Ytajlgbonapfckaa
