/- ItemSorts: the row of the law, out of its pure statement (YtnjimfdgdefenaaPureItemSorts) and the printed walk; its parameters opened by YtnjimfdgdefenaaOpen. -/
import Derived.Test.YtnjimfdgdefenaaRows
import Derived.Test.YtnjimfdgdefenaaPItemSortsx4
import Derived.Test.YtnjimfdgdefenaaPureItemSorts
import Derived.Test.YtnjimfdgdefenaaOpen
import Derived.WalkKit
import Derived.ProofKit
import Derived.OpenShut
import Derived.ShutString
import Derived.ChangeOld
import Derived.Below
import Derived.SizedLaws
namespace Go.Proofs.Ytnjimfdgdefenaa.itemSorts
open Go.ChangeShapes Go.WideShapes Go.ChangeAt Go.RowKit Go.Proofs.YtnjimfdgdefenaaW.PrintWords Go.Proofs.Ytnjimfdgdefenaa.PItemSorts Go.Proofs.Ytnjimfdgdefenaa.Opn
open Go.ChangeMaps (open_string shut_string)
set_option linter.unusedVariables false
set_option linter.unusedSimpArgs false
theorem own : ownKnob Try.prog.godebug = none := by kernel_rfl
theorem laidOut : laidOutB Try.prog = true := by kernel_rfl
set_option maxRecDepth 100000 in
theorem lifted (os : Os) (started : os.Started) (H : Type) (enc : TypeId × Value → H) :
    ReturnsInHanded {} Try.checked os 7 .any (Rows.itemSortsSpec.pre6 enc Try.prog Try.f7 Rows.itemSortsRow.domain false) (Rows.itemSortsSpec.post enc Try.prog Try.f7 false true false false) := by
  refine returnsInHanded_of_change_sized (C := Try.checked) own started (by kernel_rfl) Try.func7
    (ChangeSpec.witness6 (enc := enc) (C := Try.checked) false ⟨#[], #[.slice none 0 0], []⟩ 8 (by kernel_rfl) (by kernel_rfl) (by kernel_rfl) (by kernel_rfl)) ?_
  intro W base args ds gs before hval0 hW hcnd hsz0 _
  have hsz : (DataW.weightsEach Try.prog (Try.f7.params.toList ++ Rows.itemSortsSpec.plain.varTypes Try.prog) (ds ++ gs)).all (· ≤ reachBytes) = true := hsz0
  have hval : ∀ (j : Nat) t v, Try.f7.params[j]? = some t → args[j]? = some v → Value.okWide Try.prog W .any base t v := hval0
  have hW' := hW
  obtain ⟨p, q, hA0, hV, rfl, hfz, hnd⟩ := hW
  have hA : DataW.TrodAll enc Try.prog W 0 (fun _ => true) true Try.f7.params.toList args.toList ds p := hA0
  rw [Try.params7] at hA hval hsz
  obtain ⟨v0, vs0, d0, ds0, p0, q0, hargs, rfl, rfl, h0, r0⟩ := trodAll_cons hA
  obtain ⟨rfl, rfl, rfl⟩ := trodAll_nil r0
  obtain rfl : args = #[v0] := by cases args; simp_all
  obtain ⟨rfl, rfl⟩ := trodVars_none hV
  have lt0 := trod_blocks h0
  have k0 := h0
  obtain ⟨A0, n0, c0, rfl⟩ := okWide_slice Try.underlying22 (hval 0 22 v0 rfl rfl)
  obtain ⟨y0, K0, w0, b0⟩ := Opens.arg (Opens.slice (z := ByteArray.empty) (B := 16) (d := Kd.string) Try.underlying22 (by kernel_rfl) (by kernel_rfl) (Opens.string Try.underlying9)) hsz (j := 0) (t := 22) rfl rfl h0
  obtain ⟨rfl, hc0, hr0⟩ := slice_of (P := Try.prog) (t := 22) K0
  clear hA0 hval0 hsz0 hsz
  obtain ⟨k, hP⟩ := PureItemSorts.ItemSorts y0 w0
  have hcall : Calls Try.prog 7 #[.slice A0 y0.length c0] W fun e w' => e = .returned (.bool true) ∧ Below W.heap.size W w' := by
    refine (PItemSorts.logbooklaw04_ItemSorts.calls k _ _ y0 true W hr0 hc0 hP).mono ?_
    rintro e w' ⟨rfl, hd⟩
    exact ⟨rfl, hd⟩
  refine hcall.mono fun e W' ⟨he, bel⟩ => ?_
  subst he
  exact ⟨_, rfl, _, _, _, [], _, [], hW', trodAll_mk1 (shut_bool Try.underlying4 _), (trodAll_cons_mk (Below.trod laidOut (by kernel_rfl) (of_decide_eq_true (by kernel_rfl)) k0 bel lt0) trodAll_mk0), rfl, bel.frame _, fun h => by cases h⟩
theorem over : Rows.itemSortsRow.holds Try.pinned (OpenSpec.ofChange Rows.itemSortsSpec) :=
  OpenClaim.holds_of_wide 7 Try.f7 rfl rfl rfl rfl rfl rfl rfl ⟨rfl, rfl, rfl, rfl, rfl⟩ rfl rfl rfl rfl rfl (by kernel_rfl) Try.func7 (by kernel_rfl)
    (of_decide_eq_true (by kernel_rfl)) (by unfold Func.isWrapper; first | (rw [if_pos (by decide +kernel)]; kernel_rfl) | (rw [if_neg (by decide +kernel)]; exact ⟨rfl, rfl⟩))
    (fun os started H enc _ => lifted os started H enc)
theorem proved : Rows.ItemSortsSaid := over
#print axioms proved
end Go.Proofs.Ytnjimfdgdefenaa.itemSorts
namespace Go.Proofs.Ytnjimfdgdefenaa
/-- The row, under a short name, for the claim. -/
theorem itemSorts_holds : Rows.ItemSortsSaid := itemSorts.proved
end Go.Proofs.Ytnjimfdgdefenaa
