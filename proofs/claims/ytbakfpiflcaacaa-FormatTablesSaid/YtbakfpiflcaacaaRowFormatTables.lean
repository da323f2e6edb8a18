/- FormatTables: the row of the law, out of its pure statement (YtbakfpiflcaacaaPureFormatTables) and the printed walk; its parameters opened by YtbakfpiflcaacaaOpen. -/
import Derived.Test.YtbakfpiflcaacaaRows
import Derived.Test.YtbakfpiflcaacaaPFormatTablesx5
import Derived.Test.YtbakfpiflcaacaaPureFormatTables
import Derived.Test.YtbakfpiflcaacaaOpen
import Derived.WalkKit
import Derived.ProofKit
import Derived.OpenShut
import Derived.ShutString
import Derived.ChangeOld
import Derived.Below
import Derived.SizedLaws
namespace Go.Proofs.Ytbakfpiflcaacaa.formatTables
open Go.ChangeShapes Go.WideShapes Go.ChangeAt Go.RowKit Go.Proofs.YtbakfpiflcaacaaW.PrintWords Go.Proofs.Ytbakfpiflcaacaa.PFormatTables Go.Proofs.Ytbakfpiflcaacaa.Opn
open Go.ChangeMaps (open_string shut_string)
set_option linter.unusedVariables false
set_option linter.unusedSimpArgs false
theorem own : ownKnob Try.prog.godebug = none := by kernel_rfl
theorem laidOut : laidOutB Try.prog = true := by kernel_rfl
set_option maxRecDepth 100000 in
theorem lifted (os : Os) (started : os.Started) (H : Type) (enc : TypeId × Value → H) :
    ReturnsInHanded {} Try.checked os 5 .any (Rows.formatTablesSpec.pre6 enc Try.prog Try.f5 Rows.formatTablesRow.domain false) (Rows.formatTablesSpec.post enc Try.prog Try.f5 false true false false) := by
  refine returnsInHanded_of_change_sized (C := Try.checked) own started (by kernel_rfl) Try.func5
    (ChangeSpec.witness6 (enc := enc) (C := Try.checked) false ⟨#[], #[.slice none 0 0], []⟩ 8 (by kernel_rfl) (by kernel_rfl) (by kernel_rfl) (by kernel_rfl)) ?_
  intro W base args ds gs before hval0 hW hcnd hsz0 _
  have hsz : (DataW.weightsEach Try.prog (Try.f5.params.toList ++ Rows.formatTablesSpec.plain.varTypes Try.prog) (ds ++ gs)).all (· ≤ reachBytes) = true := hsz0
  have hval : ∀ (j : Nat) t v, Try.f5.params[j]? = some t → args[j]? = some v → Value.okWide Try.prog W .any base t v := hval0
  have hW' := hW
  obtain ⟨p, q, hA0, hV, rfl, hfz, hnd⟩ := hW
  have hA : DataW.TrodAll enc Try.prog W 0 (fun _ => true) true Try.f5.params.toList args.toList ds p := hA0
  rw [Try.params5] at hA hval hsz
  obtain ⟨v0, vs0, d0, ds0, p0, q0, hargs, rfl, rfl, h0, r0⟩ := trodAll_cons hA
  obtain ⟨rfl, rfl, rfl⟩ := trodAll_nil r0
  obtain rfl : args = #[v0] := by cases args; simp_all
  obtain ⟨rfl, rfl⟩ := trodVars_none hV
  have lt0 := trod_blocks h0
  have k0 := h0
  obtain ⟨A0, n0, c0, rfl⟩ := okWide_slice Try.underlying35 (hval 0 35 v0 rfl rfl)
  obtain ⟨y0, K0, w0, b0⟩ := Opens.arg (Opens.slice (z := ([] : List (ByteArray))) (B := 24) (d := (Kd.slice 9 Kd.string)) Try.underlying35 (by kernel_rfl) (by kernel_rfl) (Opens.slice (z := ByteArray.empty) (B := 16) (d := Kd.string) Try.underlying27 (by kernel_rfl) (by kernel_rfl) (Opens.string Try.underlying9))) hsz (j := 0) (t := 35) rfl rfl h0
  obtain ⟨rfl, hc0, hr0⟩ := slice_of (P := Try.prog) (t := 35) K0
  clear hA0 hval0 hsz0 hsz
  obtain ⟨k, hP⟩ := PureFormatTables.FormatTables y0 w0
  have hcall : Calls Try.prog 5 #[.slice A0 y0.length c0] W fun e w' => e = .returned (.bool true) ∧ Below W.heap.size W w' := by
    refine (PFormatTables.logbooklaw40_FormatTables.calls k _ _ y0 true W hr0 hc0 hP).mono ?_
    rintro e w' ⟨rfl, hd⟩
    exact ⟨rfl, hd⟩
  refine hcall.mono fun e W' ⟨he, bel⟩ => ?_
  subst he
  exact ⟨_, rfl, _, _, _, [], _, [], hW', trodAll_mk1 (shut_bool Try.underlying4 _), (trodAll_cons_mk (Below.trod laidOut (by kernel_rfl) (of_decide_eq_true (by kernel_rfl)) k0 bel lt0) trodAll_mk0), rfl, bel.frame _, fun h => by cases h⟩
theorem over : Rows.formatTablesRow.holds Try.pinned (OpenSpec.ofChange Rows.formatTablesSpec) :=
  OpenClaim.holds_of_wide 5 Try.f5 rfl rfl rfl rfl rfl rfl rfl ⟨rfl, rfl, rfl, rfl, rfl⟩ rfl rfl rfl rfl rfl (by kernel_rfl) Try.func5 (by kernel_rfl)
    (of_decide_eq_true (by kernel_rfl)) (by unfold Func.isWrapper; first | (rw [if_pos (by decide +kernel)]; kernel_rfl) | (rw [if_neg (by decide +kernel)]; exact ⟨rfl, rfl⟩))
    (fun os started H enc _ => lifted os started H enc)
theorem proved : Rows.FormatTablesSaid := over
#print axioms proved
end Go.Proofs.Ytbakfpiflcaacaa.formatTables
namespace Go.Proofs.Ytbakfpiflcaacaa
/-- The row, under a short name, for the claim. -/
theorem formatTables_holds : Rows.FormatTablesSaid := formatTables.proved
end Go.Proofs.Ytbakfpiflcaacaa
