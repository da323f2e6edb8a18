/- ScanEntries: the row of the law, out of its pure statement (YtldoaommikclbaaPureScanEntries) and the printed walk; its parameters opened by YtldoaommikclbaaOpen. -/
import Derived.Test.YtldoaommikclbaaRows
import Derived.Test.YtldoaommikclbaaPScanEntriesx14
import Derived.Test.YtldoaommikclbaaPureScanEntries
import Derived.Test.YtldoaommikclbaaOpen
import Derived.WalkKit
import Derived.ProofKit
import Derived.OpenShut
import Derived.ShutString
import Derived.ChangeOld
import Derived.Below
import Derived.SizedLaws
namespace Go.Proofs.Ytldoaommikclbaa.scanEntries
open Go.ChangeShapes Go.WideShapes Go.ChangeAt Go.RowKit Go.Proofs.YtldoaommikclbaaW.PrintWords Go.Proofs.Ytldoaommikclbaa.PScanEntries Go.Proofs.Ytldoaommikclbaa.Opn
open Go.ChangeMaps (open_string shut_string)
set_option linter.unusedVariables false
set_option linter.unusedSimpArgs false
theorem own : ownKnob Try.prog.godebug = none := by kernel_rfl
theorem laidOut : laidOutB Try.prog = true := by kernel_rfl
set_option maxRecDepth 100000 in
theorem lifted (os : Os) (started : os.Started) (H : Type) (enc : TypeId × Value → H) :
    ReturnsInHanded {} Try.checked os 4 .any (Rows.scanEntriesSpec.pre6 enc Try.prog Try.f4 Rows.scanEntriesRow.domain false) (Rows.scanEntriesSpec.post enc Try.prog Try.f4 false true false false) := by
  refine returnsInHanded_of_change_sized (C := Try.checked) own started (by kernel_rfl) Try.func4
    (ChangeSpec.witness6 (enc := enc) (C := Try.checked) false ⟨#[], #[.slice none 0 0, .int .i64 0, .int .i64 0, .agg #[.int .i64 0, .slice none 0 0, .slice none 0 0, .slice none 0 0]], []⟩ 8 (by kernel_rfl) (by kernel_rfl) (by kernel_rfl) (by kernel_rfl)) ?_
  intro W base args ds gs before hval0 hW hcnd hsz0 _
  have hsz : (DataW.weightsEach Try.prog (Try.f4.params.toList ++ Rows.scanEntriesSpec.plain.varTypes Try.prog) (ds ++ gs)).all (· ≤ reachBytes) = true := hsz0
  have hval : ∀ (j : Nat) t v, Try.f4.params[j]? = some t → args[j]? = some v → Value.okWide Try.prog W .any base t v := hval0
  have hW' := hW
  obtain ⟨p, q, hA0, hV, rfl, hfz, hnd⟩ := hW
  have hA : DataW.TrodAll enc Try.prog W 0 (fun _ => true) true Try.f4.params.toList args.toList ds p := hA0
  rw [Try.params4] at hA hval hsz
  obtain ⟨v0, vs0, d0, ds0, p0, q0, hargs, rfl, rfl, h0, r0⟩ := trodAll_cons hA
  obtain ⟨v1, vs1, d1, ds1, p1, q1, rfl, rfl, rfl, h1, r1⟩ := trodAll_cons r0
  obtain ⟨v2, vs2, d2, ds2, p2, q2, rfl, rfl, rfl, h2, r2⟩ := trodAll_cons r1
  obtain ⟨v3, vs3, d3, ds3, p3, q3, rfl, rfl, rfl, h3, r3⟩ := trodAll_cons r2
  obtain ⟨rfl, rfl, rfl⟩ := trodAll_nil r3
  obtain rfl : args = #[v0, v1, v2, v3] := by cases args; simp_all
  obtain ⟨rfl, rfl⟩ := trodVars_none hV
  have lt0 := trod_blocks h0
  have k0 := h0
  obtain ⟨A0, n0, c0, rfl⟩ := okWide_slice Try.underlying22 (hval 0 22 v0 rfl rfl)
  obtain ⟨y0, K0, w0, b0⟩ := Opens.arg (Opens.slice (z := (0 : Int)) (B := 1) (d := (Kd.int .u8)) Try.underlying22 (by kernel_rfl) (by kernel_rfl) (Opens.int Try.underlying5)) hsz (j := 0) (t := 22) rfl rfl h0
  obtain ⟨rfl, hc0, hr0⟩ := slice_of (P := Try.prog) (t := 22) K0
  have lt1 := trod_blocks h1
  have k1 := h1
  obtain ⟨y1, rfl, rfl, rfl, w1⟩ := open_int Try.underlying3 (hval 1 3 v1 rfl rfl) h1
  have lt2 := trod_blocks h2
  have k2 := h2
  obtain ⟨y2, rfl, rfl, rfl, w2⟩ := open_int Try.underlying3 (hval 2 3 v2 rfl rfl) h2
  have lt3 := trod_blocks h3
  have k3 := h3
  obtain ⟨cs3, rfl, hcs3⟩ := okWide_struct Try.underlying31 (hval 3 31 v3 rfl rfl)
  obtain ⟨y3, K3, w3, b3⟩ := Opens.arg (Opens.struct (d := (Kd.pair (Kd.int .i64) (Kd.pair (Kd.slice 47 (Kd.int .u64)) (Kd.pair (Kd.slice 5 (Kd.int .u8)) (Kd.slice 47 (Kd.int .u64)))))) (fun x : S31 => (x.f0, x.f1, x.f2, x.f3)) (fun p => (⟨p.1, p.2.1, p.2.2.1, p.2.2.2⟩ : S31)) (fun _ => rfl) Try.underlying31 (by kernel_rfl) (OpensFs.cons rfl rfl (by kernel_rfl) (Opens.int Try.underlying3) (OpensFs.cons rfl rfl (by kernel_rfl) (Opens.slice (z := (0 : Int)) (B := 8) (d := (Kd.int .u64)) Try.underlying29 (by kernel_rfl) (by kernel_rfl) (Opens.int Try.underlying47)) (OpensFs.cons rfl rfl (by kernel_rfl) (Opens.slice (z := (0 : Int)) (B := 1) (d := (Kd.int .u8)) Try.underlying22 (by kernel_rfl) (by kernel_rfl) (Opens.int Try.underlying5)) (OpensFs.one rfl rfl (by kernel_rfl) (Opens.slice (z := (0 : Int)) (B := 8) (d := (Kd.int .u64)) Try.underlying29 (by kernel_rfl) (by kernel_rfl) (Opens.int Try.underlying47))))))) hsz (j := 3) (t := 31) rfl rfl h3
  obtain ⟨_, _, E3, rfl, ⟨_, _, rfl, ⟨A3_1, c3_1, rfl, hc3_1, hr3_1⟩, ⟨_, _, rfl, ⟨A3_2, c3_2, rfl, hc3_2, hr3_2⟩, ⟨A3_3, c3_3, rfl, hc3_3, hr3_3⟩⟩⟩⟩ := K3
  have E3' : Value.agg cs3 = .agg #[.int .i64 y3.f0, .slice A3_1 y3.f1.length c3_1, .slice A3_2 y3.f2.length c3_2, .slice A3_3 y3.f3.length c3_3] := agg_of (l := [.int .i64 y3.f0, .slice A3_1 y3.f1.length c3_1, .slice A3_2 y3.f2.length c3_2, .slice A3_3 y3.f3.length c3_3]) E3
  clear hA0 hval0 hsz0 hsz
  obtain ⟨k, hP⟩ := PureScanEntries.ScanEntries y0 y1 y2 y3 w0 w1 w2 w3
  have hcall : Calls Try.prog 4 #[.slice A0 y0.length c0, .int .i64 y1, .int .i64 y2, Value.agg cs3] W fun e w' => e = .returned (.bool true) ∧ Below W.heap.size W w' := by
    rw [E3']
    refine (PScanEntries.logbooklaw17_ScanEntries.calls k _ _ y0 y1 y2 y3.f0 _ _ y3.f1 _ _ y3.f2 _ _ y3.f3 true W hr0 hc0 hr3_1 hc3_1 hr3_2 hc3_2 hr3_3 hc3_3 hP).mono ?_
    rintro e w' ⟨rfl, hd⟩
    exact ⟨rfl, hd⟩
  refine hcall.mono fun e W' ⟨he, bel⟩ => ?_
  subst he
  exact ⟨_, rfl, _, _, _, [], _, [], hW', trodAll_mk1 (shut_bool Try.underlying4 _), (trodAll_cons_mk (Below.trod laidOut (by kernel_rfl) (of_decide_eq_true (by kernel_rfl)) k0 bel lt0) (trodAll_cons_mk (Below.trod laidOut (by kernel_rfl) (of_decide_eq_true (by kernel_rfl)) k1 bel lt1) (trodAll_cons_mk (Below.trod laidOut (by kernel_rfl) (of_decide_eq_true (by kernel_rfl)) k2 bel lt2) (trodAll_cons_mk (Below.trod laidOut (by kernel_rfl) (of_decide_eq_true (by kernel_rfl)) k3 bel lt3) trodAll_mk0)))), rfl, bel.frame _, fun h => by cases h⟩
theorem over : Rows.scanEntriesRow.holds Try.pinned (OpenSpec.ofChange Rows.scanEntriesSpec) :=
  OpenClaim.holds_of_wide 4 Try.f4 rfl rfl rfl rfl rfl rfl rfl ⟨rfl, rfl, rfl, rfl, rfl⟩ rfl rfl rfl rfl rfl (by kernel_rfl) Try.func4 (by kernel_rfl)
    (of_decide_eq_true (by kernel_rfl)) (by unfold Func.isWrapper; first | (rw [if_pos (by decide +kernel)]; kernel_rfl) | (rw [if_neg (by decide +kernel)]; exact ⟨rfl, rfl⟩))
    (fun os started H enc _ => lifted os started H enc)
theorem proved : Rows.ScanEntriesSaid := over
#print axioms proved
end Go.Proofs.Ytldoaommikclbaa.scanEntries
namespace Go.Proofs.Ytldoaommikclbaa
/-- The row, under a short name, for the claim. -/
theorem scanEntries_holds : Rows.ScanEntriesSaid := scanEntries.proved
end Go.Proofs.Ytldoaommikclbaa
