/- CursorTells: the row and its tied card. -/
/- CursorTells: the row of the law, out of its pure statement (YtmoodnnfghbilaaDoorPureCursorTells) and the printed walk; its parameters opened by YtmoodnnfghbilaaDoorOpen. -/
import Derived.Test.YtmoodnnfghbilaaDoorTie
import Derived.Test.YtmoodnnfghbilaaDoorCards
import Derived.LaidMore
import Derived.Lay
import Derived.SevenTiedAt
import Derived.Stop.Joined
import Derived.Test.YtmoodnnfghbilaaDoorRows
import Derived.Test.YtmoodnnfghbilaaDoorPCursorTellsx5
import Derived.Test.YtmoodnnfghbilaaDoorPureCursorTells
import Derived.Test.YtmoodnnfghbilaaDoorOpen
import Derived.WalkKit
import Derived.ProofKit
import Derived.OpenShut
import Derived.ShutString
import Derived.ChangeOld
import Derived.Below
import Derived.SizedLaws
namespace Go.Proofs.YtmoodnnfghbilaaDoor.cursorTells
open Go.ChangeShapes Go.WideShapes Go.ChangeAt Go.RowKit Go.Proofs.YtmoodnnfghbilaaDoorW.PrintWords Go.Proofs.YtmoodnnfghbilaaDoor.PCursorTells Go.Proofs.YtmoodnnfghbilaaDoor.Opn
open Go.ChangeMaps (open_string shut_string)
set_option linter.unusedVariables false
set_option linter.unusedSimpArgs false
theorem own : ownKnob Tryd.prog.godebug = none := by kernel_rfl
theorem laidOut : laidOutB Tryd.prog = true := by kernel_rfl
set_option maxRecDepth 100000 in
theorem lifted (os : Os) (started : os.Started) (H : Type) (enc : TypeId × Value → H) :
    ReturnsInHanded {} Tryd.checked os 4 .any (fun w args => (Rows.cursorTellsSpec.pre enc Tryd.prog Tryd.f4 Rows.cursorTellsRow.domain false w args ∧ laidMetH Tryd.prog Rows.cursorTellsRow.laid w) ∧ sizedMet enc Tryd.prog Tryd.f4 (OpenSpec.ofChange Rows.cursorTellsSpec) false w args) (Rows.cursorTellsSpec.post enc Tryd.prog Tryd.f4 false true false false) := by
  refine returnsInHanded_of_change_and (C := Tryd.checked) (X := fun w _ => laidMetH Tryd.prog Rows.cursorTellsRow.laid w) (fun _ _ _ hh h => h.of_heap hh) own started (by kernel_rfl) Tryd.func4
    (ChangeSpec.witness_shaped (enc := enc) (C := Tryd.checked) (os := os) (X := fun w _ => laidMetH Tryd.prog Rows.cursorTellsRow.laid w) false (World.laidAll Tryd.prog os Rows.cursorTellsRow.laid) #[.int .u64 0, .agg #[.int .u64 0, .int .u64 0, .int .u64 0, .int .u64 0, .slice none 0 0], .int .u64 0, .agg #[.int .u64 0, .int .u64 0, .int .u64 0, .int .u64 0, .int .u64 0, .int .u64 0]] 8 (World.laidAll_os _ _ _)
      (World.shaped_of_ZipB (by kernel_rfl) (by kernel_rfl)) (by kernel_rfl) (by kernel_rfl) (by kernel_rfl)
      (by rw [MakeChecks.laidMetH_plain _ _ _ (by kernel_rfl)]; exact laidMet_laidAll _ (by kernel_rfl) (by kernel_rfl))) ?_
  intro W base args ds gs before hval0 hW hcnd hsz0 _ _
  have hsz : (DataW.weightsEach Tryd.prog (Tryd.f4.params.toList ++ Rows.cursorTellsSpec.plain.varTypes Tryd.prog) (ds ++ gs)).all (· ≤ reachBytes) = true := hsz0
  have hval : ∀ (j : Nat) t v, Tryd.f4.params[j]? = some t → args[j]? = some v → Value.okWide Tryd.prog W .any base t v := hval0
  have hW' := hW
  obtain ⟨p, q, hA0, hV, rfl, hfz, hnd⟩ := hW
  have hA : DataW.TrodAll enc Tryd.prog W 0 (fun _ => true) true Tryd.f4.params.toList args.toList ds p := hA0
  rw [Tryd.params4] at hA hval hsz
  obtain ⟨v0, vs0, d0, ds0, p0, q0, hargs, rfl, rfl, h0, r0⟩ := trodAll_cons hA
  obtain ⟨v1, vs1, d1, ds1, p1, q1, rfl, rfl, rfl, h1, r1⟩ := trodAll_cons r0
  obtain ⟨v2, vs2, d2, ds2, p2, q2, rfl, rfl, rfl, h2, r2⟩ := trodAll_cons r1
  obtain ⟨v3, vs3, d3, ds3, p3, q3, rfl, rfl, rfl, h3, r3⟩ := trodAll_cons r2
  obtain ⟨rfl, rfl, rfl⟩ := trodAll_nil r3
  obtain rfl : args = #[v0, v1, v2, v3] := by cases args; simp_all
  obtain ⟨rfl, rfl⟩ := trodVars_none hV
  have lt0 := trod_blocks h0
  have k0 := h0
  obtain ⟨y0, rfl, rfl, rfl, w0⟩ := open_int Tryd.underlying22 (hval 0 22 v0 rfl rfl) h0
  have lt1 := trod_blocks h1
  have k1 := h1
  obtain ⟨cs1, rfl, hcs1⟩ := okWide_struct Tryd.underlying32 (hval 1 32 v1 rfl rfl)
  obtain ⟨y1, K1, w1, b1⟩ := Opens.arg (Opens.struct (d := (Kd.pair (Kd.int .u64) (Kd.pair (Kd.int .u64) (Kd.pair (Kd.int .u64) (Kd.pair (Kd.int .u64) (Kd.slice 9 Kd.string)))))) (fun p => p) (fun p => p) (fun _ => rfl) Tryd.underlying32 (by kernel_rfl) (OpensFs.cons rfl rfl (by kernel_rfl) (Opens.int Tryd.underlying22) (OpensFs.cons rfl rfl (by kernel_rfl) (Opens.int Tryd.underlying22) (OpensFs.cons rfl rfl (by kernel_rfl) (Opens.int Tryd.underlying22) (OpensFs.cons rfl rfl (by kernel_rfl) (Opens.int Tryd.underlying22) (OpensFs.one rfl rfl (by kernel_rfl) (Opens.slice (z := ByteArray.empty) (B := 16) (d := Kd.string) Tryd.underlying30 (by kernel_rfl) (by kernel_rfl) (Opens.string Tryd.underlying9)))))))) hsz (j := 1) (t := 32) rfl rfl h1
  obtain ⟨_, _, E1, rfl, ⟨_, _, rfl, rfl, ⟨_, _, rfl, rfl, ⟨_, _, rfl, rfl, ⟨A1_4, c1_4, rfl, hc1_4, hr1_4⟩⟩⟩⟩⟩ := K1
  have E1' : Value.agg cs1 = .agg #[.int .u64 y1.1, .int .u64 y1.2.1, .int .u64 y1.2.2.1, .int .u64 y1.2.2.2.1, .slice A1_4 y1.2.2.2.2.length c1_4] := agg_of (l := [.int .u64 y1.1, .int .u64 y1.2.1, .int .u64 y1.2.2.1, .int .u64 y1.2.2.2.1, .slice A1_4 y1.2.2.2.2.length c1_4]) E1
  have lt2 := trod_blocks h2
  have k2 := h2
  obtain ⟨y2, rfl, rfl, rfl, w2⟩ := open_int Tryd.underlying22 (hval 2 22 v2 rfl rfl) h2
  have lt3 := trod_blocks h3
  have k3 := h3
  obtain ⟨cs3, rfl, hcs3⟩ := okWide_array Tryd.underlying23 (hval 3 23 v3 rfl rfl)
  obtain ⟨y3, K3, w3, b3⟩ := Opens.arg (Opens.array (d := (Kd.pair (Kd.int .u64) (Kd.pair (Kd.int .u64) (Kd.pair (Kd.int .u64) (Kd.pair (Kd.int .u64) (Kd.pair (Kd.int .u64) (Kd.int .u64))))))) (fun p => p) (fun p => p) (fun _ => rfl) Tryd.underlying23 (by kernel_rfl) (by kernel_rfl) (OpensFs.cons rfl rfl (by kernel_rfl) (Opens.int Tryd.underlying22) (OpensFs.cons rfl rfl (by kernel_rfl) (Opens.int Tryd.underlying22) (OpensFs.cons rfl rfl (by kernel_rfl) (Opens.int Tryd.underlying22) (OpensFs.cons rfl rfl (by kernel_rfl) (Opens.int Tryd.underlying22) (OpensFs.cons rfl rfl (by kernel_rfl) (Opens.int Tryd.underlying22) (OpensFs.one rfl rfl (by kernel_rfl) (Opens.int Tryd.underlying22)))))))) hsz (j := 3) (t := 23) rfl rfl h3
  obtain ⟨_, _, E3, rfl, ⟨_, _, rfl, rfl, ⟨_, _, rfl, rfl, ⟨_, _, rfl, rfl, ⟨_, _, rfl, rfl, rfl⟩⟩⟩⟩⟩ := K3
  have E3' : Value.agg cs3 = .agg #[.int .u64 y3.1, .int .u64 y3.2.1, .int .u64 y3.2.2.1, .int .u64 y3.2.2.2.1, .int .u64 y3.2.2.2.2.1, .int .u64 y3.2.2.2.2.2] := agg_of (l := [.int .u64 y3.1, .int .u64 y3.2.1, .int .u64 y3.2.2.1, .int .u64 y3.2.2.2.1, .int .u64 y3.2.2.2.2.1, .int .u64 y3.2.2.2.2.2]) E3
  clear hA0 hval0 hsz0 hsz
  obtain ⟨k, hP⟩ := PureCursorTells.CursorTells y0 y1 y2 y3 w0 w1 w2 w3
  have hcall : Calls Tryd.prog 4 #[.int .u64 y0, Value.agg cs1, .int .u64 y2, Value.agg cs3] W fun e w' => e = .returned (.bool true) ∧ Below W.heap.size W w' := by
    rw [E1', E3']
    refine (PCursorTells.logbooklaw29_CursorTells.calls k y0 y1.1 y1.2.1 y1.2.2.1 y1.2.2.2.1 _ _ y1.2.2.2.2 y2 y3.1 y3.2.1 y3.2.2.1 y3.2.2.2.1 y3.2.2.2.2.1 y3.2.2.2.2.2 true W hr1_4 hc1_4 hP).mono ?_
    rintro e w' ⟨rfl, hd⟩
    exact ⟨rfl, hd⟩
  refine hcall.mono fun e W' ⟨he, bel⟩ => ?_
  subst he
  exact ⟨_, rfl, _, _, _, [], _, [], hW', trodAll_mk1 (shut_bool Tryd.underlying4 _), (trodAll_cons_mk (Below.trod laidOut (by kernel_rfl) (of_decide_eq_true (by kernel_rfl)) k0 bel lt0) (trodAll_cons_mk (Below.trod laidOut (by kernel_rfl) (of_decide_eq_true (by kernel_rfl)) k1 bel lt1) (trodAll_cons_mk (Below.trod laidOut (by kernel_rfl) (of_decide_eq_true (by kernel_rfl)) k2 bel lt2) (trodAll_cons_mk (Below.trod laidOut (by kernel_rfl) (of_decide_eq_true (by kernel_rfl)) k3 bel lt3) trodAll_mk0)))), rfl, bel.frame _, fun h => by cases h⟩
theorem over : Rows.cursorTellsRow.holds Tryd.pinned (OpenSpec.ofChange Rows.cursorTellsSpec) :=
  OpenClaim.holds_of_wide 4 Tryd.f4 rfl rfl rfl rfl rfl rfl rfl ⟨rfl, rfl, rfl, rfl, rfl⟩ rfl rfl rfl rfl rfl (by kernel_rfl) Tryd.func4 (by kernel_rfl)
    (of_decide_eq_true (by kernel_rfl)) (by unfold Func.isWrapper; first | (rw [if_pos (by decide +kernel)]; kernel_rfl) | (rw [if_neg (by decide +kernel)]; exact ⟨rfl, rfl⟩))
    (fun os started H enc _ => lifted os started H enc)
theorem card : Rows.CursorTellsCardSaid :=
  Claim7.holds_tied_plain_at .later [] [.data, .pinned] true (true, "b2ba28e79e6f51a841f8bc9cb52de90783d7c8ae4efae622c6174a9247fc3dfe") false over (fun _ h => by cases h) (by kernel_rfl) (fun _ h => by cases h) cursorTells_row_tie rfl ⟨rfl, rfl⟩ (by kernel_rfl) rfl
    (fun f fn hf hfn => by
      obtain rfl : f = 4 := Option.some.inj ((show Tryd.prog.funcNamed "logbook/logbooklaw29.CursorTells" = some 4 by kernel_rfl).symm.trans hf) |>.symm
      obtain rfl : fn = Tryd.f4 := (Option.some.inj (Tryd.func4.symm.trans hfn)).symm
      exact ⟨by kernel_rfl, fun j t ht => by
        rw [Tryd.params4] at ht
        have hm : t ∈ [22, 32, 22, 23] := by simpa using Array.mem_of_getElem? ht
        have hall : ([22, 32, 22, 23].all fun u => !Tryd.prog.wantsStandIn u) = true := by kernel_rfl
        exact (show Tryd.prog.wantsStandIn t = false by simpa using List.all_eq_true.1 hall t hm)⟩)
    (by kernel_rfl)
#print axioms card
end Go.Proofs.YtmoodnnfghbilaaDoor.cursorTells
namespace Go.Proofs.YtmoodnnfghbilaaDoor
/-- The card, under a short name, for the claim. -/
theorem cursorTells_holds : Rows.CursorTellsCardSaid := cursorTells.card
end Go.Proofs.YtmoodnnfghbilaaDoor
