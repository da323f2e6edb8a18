-- LAID BY gprint.py: a scratch copy of the print, with functions that this session proved by hand among the printed ones
import Derived.Test.YtfhnmcjajpnhpaaDoorPOpReadsx0
import Derived.Test.YtfhnmcjajpnhpaaDoorPOpReadsx3
import Derived.Test.YtfhnmcjajpnhpaaDoorPOpReadsx4
import Derived.Test.YtfhnmcjajpnhpaaDoorPOpReadsx5
import Derived.Test.YtfhnmcjajpnhpaaDoorPOpReadsx6
import Derived.Test.YtfhnmcjajpnhpaaDoorPOpReadsx7
namespace Go.Proofs.YtfhnmcjajpnhpaaDoor.POpReads
open Go.RowKit Go.Proofs.YtfhnmcjajpnhpaaDoorW.PrintWords Go.Proofs.YtfhnmcjajpnhpaaDoorW.PrintLast Go.Proofs.YtfhnmcjajpnhpaaDoor.Conv Go.Proofs.YtfhnmcjajpnhpaaDoor.Bld Go.Proofs.YtfhnmcjajpnhpaaDoorW.PrintMore
attribute [local go_sem] max2_int min2_int max_two min_two max_three min_three max_four min_four gtr_less   -- for this text's walks alone
set_option linter.unusedVariables false
set_option linter.unusedSimpArgs false

/-! ### logbookref32_Number: function 24 -/
def logbookref32_Number.l0 : Nat → ByteArray → Int → Int → Option (Int × Bool)
  | 0, _, _, _ => none
  | k + 1, x0, x4, x5 => if x5 < (x0.size : Int) then (if x5 < 20 then (if 0 ≤ x5 then (logbookref32_Number.l0 k x0 (IntKind.u64.wrap ((IntKind.u64.wrap ((IntKind.u64.wrap (x4 * 10)) + (IntKind.u64.wrap (bt x0 x5)))) - 48)) (wrap64 (x5 + 1))) else (none)) else (if (x0.size : Int) > 20 then (some (0, false)) else ((logbookref32_Decimal.f k x4).bind fun t182 => (if t182.toList = x0.toList then (some (x4, true)) else (some (0, false)))))) else (if (x0.size : Int) > 20 then (some (0, false)) else ((logbookref32_Decimal.f k x4).bind fun t183 => (if t183.toList = x0.toList then (some (x4, true)) else (some (0, false)))))
def logbookref32_Number.f (k : Nat) (a0 : ByteArray) : Option (Int × Bool) := logbookref32_Number.l0 k a0 0 0
theorem logbookref32_Number.mono_l : ∀ k, (∀ y0 y1 y2, LeO (logbookref32_Number.l0 k y0 y1 y2) (logbookref32_Number.l0 (k + 1) y0 y1 y2))
  | 0 => fun _ _ _ r h => by simp [logbookref32_Number.l0] at h
  | k + 1 => by
    have ih0 := logbookref32_Number.mono_l k
    · intro y0 y1 y2
      unfold logbookref32_Number.l0
      repeat' first
      | (with_reducible exact ih0 _ _ _)
      | (with_reducible exact logbookref32_Decimal.mono _ _)
      | (with_reducible exact LeO.refl _)
      | (with_reducible exact LeO.none _)
      | (with_reducible refine LeO.ite ?_ ?_)
      | (with_reducible refine LeO.bind ?_ (fun _ => ?_))
      | exact ih0 _ _ _
      | exact logbookref32_Decimal.mono _ _
      | exact LeO.none _
      | refine LeO.ite ?_ ?_
      | refine LeO.bind ?_ (fun _ => ?_)
theorem logbookref32_Number.mono : ∀ a0 k, LeO (logbookref32_Number.f k a0) (logbookref32_Number.f (k + 1) a0) := by
  intro a0 k
  have ih0 := logbookref32_Number.mono_l k
  unfold logbookref32_Number.f
  repeat' first
      | (with_reducible exact ih0 _ _ _)
      | (with_reducible exact logbookref32_Decimal.mono _ _)
      | (with_reducible exact LeO.refl _)
      | (with_reducible exact LeO.none _)
      | (with_reducible refine LeO.ite ?_ ?_)
      | (with_reducible refine LeO.bind ?_ (fun _ => ?_))
      | exact ih0 _ _ _
      | exact logbookref32_Decimal.mono _ _
      | exact LeO.none _
      | refine LeO.ite ?_ ?_
      | refine LeO.bind ?_ (fun _ => ?_)
set_option maxHeartbeats 8000000 in
set_option maxRecDepth 100000 in
theorem logbookref32_Number.calls (k : Nat) (a0 : ByteArray) (r1 : Int) (r2 : Bool) (w : World) (h : logbookref32_Number.f k a0 = some (r1, r2)) :
    Calls Tryd.prog 24 #[.string a0] w fun e w' => e = .returned (.tuple #[.int .u64 r1, .bool r2]) ∧ Below w.heap.size w w' := by
  have HB := Aside0.mk (Below.refl w.heap.size w)
  have H : (logbookref32_Number.l0 k a0 0 0) = some (r1, r2) := h
  clear h
  have H' := Aside0.mk H
  clear H
  go_enter Tryd.func24, Tryd.ntmps24
  go_wp2
  go_loopg [4, 5] k (fun kq v4 v5 w' => ∃ (x4_1 : Int) (x5_1 : Int), v4 = .int .u64 x4_1 ∧ v5 = .int .i64 x5_1 ∧ Aside0 (logbookref32_Number.l0 kq a0 x4_1 x5_1 = some (r1, r2)) ∧ Aside0 (kq ≤ k) ∧ Aside0 (Below w.heap.size w w'))
  case atStart => exact ⟨(0), (0), (by first | rfl | (simp; done) | (simp [*]; done) | exact isEmpty_bne _), (by first | rfl | (simp; done) | (simp [*]; done) | exact isEmpty_bne _), H', ⟨Nat.le_refl _⟩, ⟨by repeat (first | (with_reducible first | exact HB.out | apply below_alloc | apply pw_below_drewN | apply below_drew1) | exact HB.out)⟩⟩
  case round =>
    clear H'
    obtain ⟨x4_1, x5_1, rfl, rfl, HA, HK1, HB⟩ := hrel
    cases gk with
    | zero => exact absurd HA.out (by simp [logbookref32_Number.l0])
    | succ k1 =>
      have H := HA.out
      clear HA
      simp only [logbookref32_Number.l0] at H
      by_cases c2 : x5_1 < (a0.size : Int)
      · rw [if_pos c2] at H
        have c2b0 : decide (x5_1 < (a0.size : Int)) = true := decide_eq_true c2
        clear c2
        by_cases c3 : x5_1 < 20
        · rw [if_pos c3] at H
          have c3b0 : decide (x5_1 < 20) = true := decide_eq_true c3
          clear c3
          by_cases c4 : 0 ≤ x5_1
          · rw [if_pos c4] at H
            have c4b0 : decide (0 ≤ x5_1) = true := decide_eq_true c4
            clear c4
            have H' := Aside0.mk H
            clear H
            have p5 : 0 ≤ (x5_1 : Int) := of_decide_eq_true (by first | (with_reducible assumption) | assumption)
            have q5 : x5_1 < (a0.size : Int) := of_decide_eq_true (by first | (with_reducible assumption) | assumption)
            have hx5 := bt_at a0 x5_1
            replace p5 := eq_true p5
            replace q5 := eq_true q5
            go_wp2
            go_roundg k1
            case measure => have := HK1.out; omega
            case rel => exact ⟨(IntKind.u64.wrap ((IntKind.u64.wrap ((IntKind.u64.wrap (x4_1 * 10)) + (IntKind.u64.wrap (bt a0 x5_1)))) - 48)), (wrap64 (x5_1 + 1)), (by first | rfl | (simp; done) | (simp [*]; done) | exact isEmpty_bne _), (by first | rfl | (simp; done) | (simp [*]; done) | exact isEmpty_bne _), H', ⟨by have := HK1.out; omega⟩, ⟨by repeat (first | (with_reducible first | exact HB.out | apply below_alloc | apply pw_below_drewN | apply below_drew1) | exact HB.out)⟩⟩
          · rw [if_neg c4] at H
            exact absurd H (by simp)
        · rw [if_neg c3] at H
          have c3b0 : decide (x5_1 < 20) = false := decide_eq_false c3
          clear c3
          by_cases c6 : (a0.size : Int) > 20
          · rw [if_pos c6] at H
            have c6b0 : decide (20 < (a0.size : Int)) = true := decide_eq_true c6
            have c6b1 : decide (20 < a0.size) = true := decide_eq_true (by omega)
            clear c6
            simp only [Option.some.injEq, Prod.mk.injEq] at H
            obtain ⟨rfl, rfl⟩ := H
            go_wp2
            go_ret2
            exact ⟨by first | rfl | (simp [errW_none, errW_some] <;> rfl) | (simp [*, errW_none, errW_some] <;> rfl), by repeat (first | (with_reducible first | exact HB.out | apply below_alloc | apply pw_below_drewN | apply below_drew1) | exact HB.out)⟩
          · rw [if_neg c6] at H
            have c6b0 : decide (20 < (a0.size : Int)) = false := decide_eq_false c6
            have c6b1 : decide (20 < a0.size) = false := decide_eq_false (by omega)
            clear c6
            replace H := Option.bind_eq_some_iff.mp H
            obtain ⟨t182, A70, H⟩ := H
            replace H : (if t182.toList = a0.toList then (some (x4_1, true)) else (some (0, false))) = some (r1, r2) := H
            have A7 := Aside0.mk A70
            clear A70
            by_cases c8 : t182.toList = a0.toList
            · rw [if_pos c8] at H
              have c8b0 : (t182.toList == a0.toList) = true := beq_iff_eq.mpr c8
              have c8b1 : (t182.toList != a0.toList) = false := bne_eq_false_iff_eq.mpr c8
              clear c8
              simp only [Option.some.injEq, Prod.mk.injEq] at H
              obtain ⟨rfl, rfl⟩ := H
              go_wp2_with (first | (go_at_call 30; (with_reducible refine (logbookref32_Decimal.calls k1 x4_1 t182 _ A7.out).mono ?_); rintro e w9 ⟨rfl, hb⟩; have n0_ := Aside0.mk (below_step (by repeat (first | (with_reducible first | exact HB.out | apply below_alloc | apply pw_below_drewN | apply below_drew1) | exact HB.out)) hb); clear HB; have HB := n0_; clear n0_; (try clear hb); (try clear hb2); (try clear hk); (try clear hi)))
              go_ret2
              exact ⟨by first | rfl | (simp [errW_none, errW_some] <;> rfl) | (simp [*, errW_none, errW_some] <;> rfl), by repeat (first | (with_reducible first | exact HB.out | apply below_alloc | apply pw_below_drewN | apply below_drew1) | exact HB.out)⟩
            · rw [if_neg c8] at H
              have c8b0 : (t182.toList == a0.toList) = false := beq_eq_false_iff_ne.mpr c8
              have c8b1 : (t182.toList != a0.toList) = true := bne_iff_ne.mpr c8
              simp only [Option.some.injEq, Prod.mk.injEq] at H
              obtain ⟨rfl, rfl⟩ := H
              go_wp2_with (first | (go_at_call 30; (with_reducible refine (logbookref32_Decimal.calls k1 x4_1 t182 _ A7.out).mono ?_); rintro e w10 ⟨rfl, hb⟩; have n0_ := Aside0.mk (below_step (by repeat (first | (with_reducible first | exact HB.out | apply below_alloc | apply pw_below_drewN | apply below_drew1) | exact HB.out)) hb); clear HB; have HB := n0_; clear n0_; (try clear hb); (try clear hb2); (try clear hk); (try clear hi)))
              go_ret2
              exact ⟨by first | rfl | (simp [errW_none, errW_some] <;> rfl) | (simp [*, errW_none, errW_some] <;> rfl), by repeat (first | (with_reducible first | exact HB.out | apply below_alloc | apply pw_below_drewN | apply below_drew1) | exact HB.out)⟩
      · rw [if_neg c2] at H
        have c2b0 : decide (x5_1 < (a0.size : Int)) = false := decide_eq_false c2
        clear c2
        by_cases c11 : (a0.size : Int) > 20
        · rw [if_pos c11] at H
          have c11b0 : decide (20 < (a0.size : Int)) = true := decide_eq_true c11
          have c11b1 : decide (20 < a0.size) = true := decide_eq_true (by omega)
          clear c11
          simp only [Option.some.injEq, Prod.mk.injEq] at H
          obtain ⟨rfl, rfl⟩ := H
          go_wp2
          go_ret2
          exact ⟨by first | rfl | (simp [errW_none, errW_some] <;> rfl) | (simp [*, errW_none, errW_some] <;> rfl), by repeat (first | (with_reducible first | exact HB.out | apply below_alloc | apply pw_below_drewN | apply below_drew1) | exact HB.out)⟩
        · rw [if_neg c11] at H
          have c11b0 : decide (20 < (a0.size : Int)) = false := decide_eq_false c11
          have c11b1 : decide (20 < a0.size) = false := decide_eq_false (by omega)
          clear c11
          replace H := Option.bind_eq_some_iff.mp H
          obtain ⟨t183, A120, H⟩ := H
          replace H : (if t183.toList = a0.toList then (some (x4_1, true)) else (some (0, false))) = some (r1, r2) := H
          have A12 := Aside0.mk A120
          clear A120
          by_cases c13 : t183.toList = a0.toList
          · rw [if_pos c13] at H
            have c13b0 : (t183.toList == a0.toList) = true := beq_iff_eq.mpr c13
            have c13b1 : (t183.toList != a0.toList) = false := bne_eq_false_iff_eq.mpr c13
            clear c13
            simp only [Option.some.injEq, Prod.mk.injEq] at H
            obtain ⟨rfl, rfl⟩ := H
            go_wp2_with (first | (go_at_call 30; (with_reducible refine (logbookref32_Decimal.calls k1 x4_1 t183 _ A12.out).mono ?_); rintro e w14 ⟨rfl, hb⟩; have n0_ := Aside0.mk (below_step (by repeat (first | (with_reducible first | exact HB.out | apply below_alloc | apply pw_below_drewN | apply below_drew1) | exact HB.out)) hb); clear HB; have HB := n0_; clear n0_; (try clear hb); (try clear hb2); (try clear hk); (try clear hi)))
            go_ret2
            exact ⟨by first | rfl | (simp [errW_none, errW_some] <;> rfl) | (simp [*, errW_none, errW_some] <;> rfl), by repeat (first | (with_reducible first | exact HB.out | apply below_alloc | apply pw_below_drewN | apply below_drew1) | exact HB.out)⟩
          · rw [if_neg c13] at H
            have c13b0 : (t183.toList == a0.toList) = false := beq_eq_false_iff_ne.mpr c13
            have c13b1 : (t183.toList != a0.toList) = true := bne_iff_ne.mpr c13
            simp only [Option.some.injEq, Prod.mk.injEq] at H
            obtain ⟨rfl, rfl⟩ := H
            go_wp2_with (first | (go_at_call 30; (with_reducible refine (logbookref32_Decimal.calls k1 x4_1 t183 _ A12.out).mono ?_); rintro e w15 ⟨rfl, hb⟩; have n0_ := Aside0.mk (below_step (by repeat (first | (with_reducible first | exact HB.out | apply below_alloc | apply pw_below_drewN | apply below_drew1) | exact HB.out)) hb); clear HB; have HB := n0_; clear n0_; (try clear hb); (try clear hb2); (try clear hk); (try clear hi)))
            go_ret2
            exact ⟨by first | rfl | (simp [errW_none, errW_some] <;> rfl) | (simp [*, errW_none, errW_some] <;> rfl), by repeat (first | (with_reducible first | exact HB.out | apply below_alloc | apply pw_below_drewN | apply below_drew1) | exact HB.out)⟩

-- GIVEN rounds=1 making=1 needs=logbook/logbookref31.Words,logbook/logbookref46.Rows,logbook/logbookref32.Number,logbook/logbookref46.Right,logbook/logbookref46.Line
/-! ### the reference's reading of a line: by hand: a struct made in each round, whose numbers are appended to -/
def refNums (k : Nat) : List ByteArray → Option (List Int)
  | [] => some []
  | x :: r => (logbookref32_Number.f k x).bind fun n => (refNums k r).bind fun q => some (n.1 :: q)
theorem refNums_mono : ∀ l k, LeO (refNums k l) (refNums (k + 1) l)
  | [], k => LeO.refl _
  | x :: r, k => LeO.bind (logbookref32_Number.mono _ _) (fun _ => LeO.bind (refNums_mono r k) (fun _ => LeO.refl _))
theorem refNums_get (k : Nat) : ∀ (l : List ByteArray) (ns : List Int), refNums k l = some ns → ns.length = l.length ∧ ∀ i, i < l.length → ∃ b, logbookref32_Number.f k (l.getD i ByteArray.empty) = some (ns.getD i 0, b)
  | [], ns, h => by
    rw [refNums] at h
    rw [← Option.some.inj h]
    exact ⟨rfl, fun i hi => absurd hi (by simp)⟩
  | x :: r, ns, h => by
    rw [refNums] at h
    obtain ⟨⟨n, b⟩, h1, h⟩ := Option.bind_eq_some_iff.1 h
    obtain ⟨q, h2, h⟩ := Option.bind_eq_some_iff.1 h
    obtain rfl := Option.some.inj h
    obtain ⟨i1, i2⟩ := refNums_get k r q h2
    refine ⟨by simp [i1], fun i hi => ?_⟩
    match i, hi with
    | 0, _ => exact ⟨b, h1⟩
    | i + 1, hi => exact i2 i (by simpa using hi)
def refPL (k : Nat) (line : ByteArray) (ws : List ByteArray) : List S39 → Int → Option (Int × List Int × List ByteArray × Bool)
  | [], _ => some (0, [], [], false)
  | r :: rs, i => if r.f0.toList = (ws.getD 0 ByteArray.empty).toList then
      if 0 ≤ r.f1 ∧ r.f1 ≤ 2 then
        if (ws.length : Int) < 1 + r.f1 then refPL k line ws rs (i + 1) else
        (refNums k ((ws.take (1 + r.f1.toNat)).drop 1)).bind fun ns =>
        (logbookref46_Right.f k (i + 1) ns (ws.drop (1 + r.f1.toNat))).bind fun b =>
        if b = true then (logbookref46_Line.f k (i + 1) ns (ws.drop (1 + r.f1.toNat))).bind fun s => if s.toList = line.toList then some (i + 1, ns, ws.drop (1 + r.f1.toNat), true) else refPL k line ws rs (i + 1)
        else refPL k line ws rs (i + 1)
      else none
    else refPL k line ws rs (i + 1)
theorem refPL_mono : ∀ line ws rs i k, LeO (refPL k line ws rs i) (refPL (k + 1) line ws rs i)
  | line, ws, [], i, k => LeO.refl _
  | line, ws, r :: rs, i, k => by
    have ih := refPL_mono line ws rs (i + 1) k
    unfold refPL
    repeat' first
      | (with_reducible exact ih)
      | (with_reducible exact refNums_mono _ _)
      | (with_reducible exact logbookref46_Right.mono _ _ _ _)
      | (with_reducible exact logbookref46_Line.mono _ _ _ _)
      | (with_reducible exact LeO.refl _)
      | (with_reducible exact LeO.none _)
      | (with_reducible refine LeO.ite ?_ ?_)
      | (with_reducible refine LeO.bind ?_ (fun _ => ?_))
def logbookref46_Parse.f (k : Nat) (a0 : ByteArray) : Option (Int × List Int × List ByteArray × Bool) :=
  (logbookref31_Words.f k a0).bind fun r => (logbookref46_Rows.f).bind fun rows => if r.2 = false ∨ r.1.length = 0 then some (0, [], [], false) else refPL k a0 r.1 rows 0
theorem logbookref46_Parse.mono : ∀ a0 k, LeO (logbookref46_Parse.f k a0) (logbookref46_Parse.f (k + 1) a0) := by
  intro a0 k
  unfold logbookref46_Parse.f
  repeat' first
    | (with_reducible exact logbookref31_Words.mono _ _)
    | (with_reducible exact refPL_mono _ _ _ _ _)
    | (with_reducible exact LeO.refl _)
    | (with_reducible exact LeO.none _)
    | (with_reducible refine LeO.ite ?_ ?_)
    | (with_reducible refine LeO.bind ?_ (fun _ => ?_))
/-- What is handed back: a struct with two rows that are read, and another value. -/
def RefOut (w : World) (r1 : Int) (r2 : List Int) (r3 : List ByteArray) (v : Value) (e : Ending) (w' : World) : Prop := ∃ (A1 : Option Addr) (c1 : Nat) (A2 : Option Addr) (c2 : Nat), e = .returned (.tuple #[.agg #[.int .i64 r1, .slice A1 r2.length c1, .slice A2 r3.length c2], v]) ∧ r2.length ≤ c1 ∧ Kd.C (Kd.int .u64) w' A1 r2.length r2 ∧ r3.length ≤ c2 ∧ Kd.C Kd.string w' A2 r3.length r3 ∧ Below w.heap.size w w'
theorem ref_C_nil {α : Type} (d : Kd α) (w : World) : Kd.C d w none 0 [] := ⟨rfl, by simp, fun h => absurd h (by simp)⟩
theorem RefOut.nil {w w' : World} {v : Value} (h : Below w.heap.size w w') : RefOut w 0 [] [] v (.returned (.tuple #[.agg #[.int .i64 0, .slice none 0 0, .slice none 0 0], v])) w' :=
  ⟨none, 0, none, 0, rfl, Nat.le_refl _, ref_C_nil _ _, Nat.le_refl _, ref_C_nil _ _, h⟩
theorem ref_u64 : (Tryd.prog.info? 47).map (fun i => (i.zero, i.size, i.bytes)) = some (some (.int .u64 0), 1, 8) := by kernel_rfl
theorem ref_str : (Tryd.prog.info? 9).map (fun i => (i.zero, i.size, i.bytes)) = some (some (.string ⟨#[]⟩), 1, 16) := by kernel_rfl
theorem ref_rest (g n c m : Nat) (hm : 1 + m ≤ n) (hc : n ≤ c) : ∃ (AT : Option Addr) (cT : Nat), (∀ W : World, (Instr.slice 24 (.slice (some ⟨g, 0, none⟩) n c) (some (.int .i64 (1 + (m : Int)))) none none).run Tryd.prog W = .ok (.slice AT (n - (1 + m)) cT) W) ∧ n - (1 + m) ≤ cT ∧ ∀ (xs : List ByteArray) (w : World), xs.length = n → Kd.C Kd.string w (some ⟨g, 0, none⟩) n xs → Kd.C Kd.string w AT (n - (1 + m)) (xs.drop (1 + m)) := by
  obtain ⟨i0, hi0, hzz⟩ := Option.map_eq_some_iff.1 ref_str
  simp only [Prod.mk.injEq] at hzz
  have h := cut_from (P := Tryd.prog) 24 9 .i64 Tryd.underlying24 hi0 1 hzz.2.1 (some ⟨g, 0, none⟩) n c (1 + (m : Int)) (by omega) (by omega)
  rw [show (1 + (m : Int)).toNat = 1 + m by omega] at h
  refine ⟨_, _, h, by omega, fun xs w hl hC => ?_⟩
  subst hl
  have := Kd.C_drop (m := 1 + m) hC hm hc
  rw [List.length_drop] at this
  exact this
theorem ref_row {W : World} {base g c : Nat} {ok : Nat → Prop} {rows : List S39} (h : Kd.R k39 39 W base ok (.slice (some ⟨g, 0, none⟩) rows.length c) rows) (q : Nat) (hq : q < rows.length) :
    W.cell? ⟨g, q * 4, none⟩ = some (.string (rows.getD q z39).f0) ∧ W.cell? ⟨g, q * 4 + 1, none⟩ = some (.int .i64 (rows.getD q z39).f1) := by
  obtain ⟨ad, he, h0, h1, _, _⟩ := at_T39 (Kd.R_reads' h).2.2 (q : Int) (by omega) (by omega)
  injection he with he
  subst he
  unfold rd_T39 at h0 h1
  rw [Int.toNat_natCast] at h0 h1
  have e : (⟨g, 0, none⟩ : Addr).add (q * 4) = ⟨g, q * 4, none⟩ := by
    unfold Addr.add
    by_cases hz : q * 4 = 0 <;> simp [hz]
  rw [e] at h0 h1
  exact ⟨h0, h1⟩
set_option maxHeartbeats 6400000 in
set_option maxRecDepth 100000 in
theorem logbookref46_Parse.calls (k : Nat) (a0 : ByteArray) (r1 : Int) (r2 : List Int) (r3 : List ByteArray) (r4 : Bool) (w : World) (h : logbookref46_Parse.f k a0 = some (r1, r2, r3, r4)) :
    Calls Tryd.prog 8 #[.string a0] w (RefOut w r1 r2 r3 (.bool r4)) := by
  unfold logbookref46_Parse.f at h
  obtain ⟨⟨ws, ok⟩, hws, h⟩ := Option.bind_eq_some_iff.1 h
  obtain ⟨rows, hrows, h⟩ := Option.bind_eq_some_iff.1 h
  have hrl : rows.length = 33 := by
    rw [← Option.some.inj hrows]
    rfl
  have hu := Tryd.underlying30
  have hu2 := Tryd.underlying39
  have HBX : Hid (Below w.heap.size w (w.alloc (.cells #[.int .i64 0, .slice none 0 0, .slice none 0 0] 30))) := Lib.hid ((Below.refl _ _).alloc (Nat.le_refl _) _)
  have HR0 : Hid ((w.alloc (.cells #[.int .i64 0, .slice none 0 0, .slice none 0 0] 30)).heap[w.heap.size]? = some (.cells #[.int .i64 0, .slice none 0 0, .slice none 0 0] 30 (0, 0))) := Lib.hid (heap_alloc_new _ _)
  have HWS := Lib.hid hws
  have HROWS := Lib.hid hrows
  have HRL := Lib.hid hrl
  have HH := Lib.hid h
  clear h hws hrows hrl
  by_cases hbad : ok = false ∨ ws.length = 0
  · have hz : Hid (r1 = 0 ∧ r2 = [] ∧ r3 = [] ∧ r4 = false) := Lib.hid (by
      have h := HH.out
      rw [if_pos hbad] at h
      simp only [Option.some.injEq, Prod.mk.injEq] at h
      obtain ⟨rfl, rfl, rfl, rfl⟩ := h
      exact ⟨rfl, rfl, rfl, rfl⟩)
    clear HH
    have hbad' : ok = false ∨ (ok = true ∧ ws.length = 0) := by
      rcases hbad with hh | hh
      · exact .inl hh
      · cases ok
        · exact .inl rfl
        · exact .inr ⟨rfl, hh⟩
    clear hbad
    rcases hbad' with rfl | ⟨rfl, hl⟩
    all_goals
      go_enter Tryd.func8, Tryd.ntmps8
      go_wp2_with (first
        | (go_at_call 23; (with_reducible refine (logbookref31_Words.calls k a0 ws _ _ HWS.out).mono ?_); rintro e w2 ⟨v0, rfl, hR, hB⟩; obtain ⟨A0, c0, rfl⟩ := Kd.R_slice hR; have HBL := Lib.hid (blk_below HR0.out hB); have HB := Lib.hid (below_then HBX.out (by simp) hB); clear hR hB)
        | (go_at_call 10; (with_reducible refine (logbookref46_Rows.calls rows _ HROWS.out).mono ?_); rintro e w3 ⟨v1, rfl, hR3, hB3⟩; have HBL3 := Lib.hid (blk_below HBL.out hB3); have HB3 : Hid (Below w.heap.size w w3) := Lib.hid (HB.out.trans (hB3.mono HB.out.size)); clear hR3 hB3)
        | (refine store_ev rfl 30 _ _ rfl rfl w.heap.size #[.int .i64 0, .slice none 0 0, .slice none 0 0] rfl rfl 30 _ HBL3.out (by kernel_rfl) (by kernel_rfl) (by kernel_rfl) ?_; intro w9 hb9 hp9; have HB9 := Lib.hid hb9; have HP9 := Lib.hid hp9; clear hb9 hp9))
      refine bodyPost_ret (results_ct rfl _ _ w.heap.size 30 #[.int .i64 0, .slice none 0 0, .slice none 0 0] (0, 0) _ rfl HB9.out hu rfl (by kernel_rfl)) rfl ?_
      obtain ⟨rfl, rfl, rfl, rfl⟩ := hz.out
      exact RefOut.nil (HP9.out.below HB3.out (Nat.le_refl _))
  have hok : ok = true ∧ 0 < ws.length := by
    cases ok
    · exact absurd (.inl rfl) hbad
    · refine ⟨rfl, ?_⟩
      have : ¬ ws.length = 0 := fun e => hbad (.inr e)
      omega
  obtain ⟨rfl, hpos⟩ := hok
  have h := HH.out
  rw [if_neg hbad] at h
  obtain ⟨x0, hx0⟩ : ∃ x, x = ws.getD 0 ByteArray.empty := ⟨_, rfl⟩
  have HX0 := Lib.hid hx0
  have HPL : Hid (refPL k a0 ws (rows.drop 0) ((0 : Nat) : Int) = some (r1, r2, r3, r4)) := Lib.hid h
  have hpos' : ((ws.length : Int) == 0) = false := beq_false_of_ne (by omega)
  clear h HH hbad hx0
  go_enter Tryd.func8, Tryd.ntmps8
  go_wp2_with (first
      | (go_at_call 23; (with_reducible refine (logbookref31_Words.calls k a0 ws _ _ HWS.out).mono ?_); rintro e w2 ⟨v0, rfl, hR, hB⟩; obtain ⟨g, c0, rfl, hg1, hg2, _⟩ := Kd.R_form hR hpos; have HR := Lib.hid hR; have HBL := Lib.hid (blk_below HR0.out hB); have HB := Lib.hid (below_then HBX.out (by simp) hB); clear hR hB)
      | (go_at_call 10; (with_reducible refine (logbookref46_Rows.calls rows _ HROWS.out).mono ?_); rintro e w3 ⟨v1, rfl, hR3, hB3⟩; obtain ⟨gr, cr, rfl, hgr1, hgr2, _⟩ := Kd.R_form hR3 (by rw [HRL.out]; omega); have HRR := Lib.hid hR3; have HR3 := Lib.hid (Kd.R_below HR.out hB3); have HBL3 := Lib.hid (blk_below HBL.out hB3); have HB3 : Hid (Below w.heap.size w w3) := Lib.hid (HB.out.trans (hB3.mono HB.out.size)); have hg3 : g < w3.heap.size := Nat.lt_of_lt_of_le hg2 hB3.size; clear hR3 hB3))
  have hr33 : rows.length ≤ 33 := by rw [HRL.out]; exact Nat.le_refl _
  obtain ⟨hcR1, hcR2⟩ : ws.length ≤ c0 ∧ rows.length ≤ cr := ⟨(Kd.R_reads' HR3.out).2.1, (Kd.R_reads' HRR.out).2.1⟩
  clear HBL HB HR HBX HR0 HWS HROWS hg1 hg2 hgr1 HRL
  go_loopw [7] (fun i wr => ∃ q : Nat, q ≤ rows.length ∧ i = .int .i64 q ∧ Hid (refPL k a0 ws (rows.drop q) (q : Int) = some (r1, r2, r3, r4)) ∧ Hid (Below w3.heap.size w3 wr)) (fun i _ => rows.length - (intOf i).toNat)
  case atStart => exact ⟨0, Nat.zero_le _, rfl, HPL, Lib.hid (Below.refl _ _)⟩
  case round =>
    obtain ⟨q, hq, rfl, hpl, hBr⟩ := hrel
    by_cases hlt : q < rows.length
    · have hdr : rows.drop q = rows.getD q z39 :: rows.drop (q + 1) := by
        rw [List.drop_eq_getElem_cons hlt, List.getD_eq_getElem?_getD, List.getElem?_eq_getElem hlt]
        rfl
      obtain ⟨hn0, hn1⟩ := ref_row (Kd.R_below HRR.out hBr.out) q hlt
      have hw0 : wr.cell? ⟨g, 0, none⟩ = some (.string x0) := by
        rw [Below.cell hBr.out (p := ⟨g, 0, none⟩) hg3, HX0.out]
        exact R_str HR3.out 0 hpos
      have h := hpl.out
      rw [hdr, refPL, ← HX0.out] at h
      obtain ⟨rq, hrq⟩ : ∃ r, r = rows.getD q z39 := ⟨_, rfl⟩
      rw [← hrq] at h hn0 hn1
      obtain ⟨nm, f1, f2, f3⟩ := rq
      simp only at h hn0 hn1
      have HF1 : Hid (f1 = (rows.getD q z39).f1) := Lib.hid (by rw [← hrq])
      clear hrq
      have hcast : ((q + 1 : Nat) : Int) = (q : Int) + 1 := by omega
      have HC := Lib.hid hcast
      have q0 : (0 : Int) ≤ (q : Int) := by omega
      have q1 : (q : Int) < (rows.length : Int) := by omega
      clear hdr hcast
      by_cases he : nm.toList = x0.toList
      case neg =>
        rw [if_neg he] at h
        have HN : Hid (refPL k a0 ws (rows.drop (q + 1)) ((q + 1 : Nat) : Int) = some (r1, r2, r3, r4)) := Lib.hid (by rw [HC.out]; exact h)
        have hne : (nm.toList == x0.toList) = false := by simp [he]
        clear h he hpl
        go_wp2
        go_quiet (fail)
        go_wp2
        go_roundw
        case rel => exact ⟨q + 1, by omega, by go_num, HN, Lib.hid (pw_below_drewN hBr.out _)⟩
        case measure => simp [intOf]; omega
      rw [if_pos he] at h
      by_cases hf : 0 ≤ f1 ∧ f1 ≤ 2
      case neg => rw [if_neg hf] at h; cases h
      rw [if_pos hf] at h
      obtain ⟨m, rfl⟩ := Int.eq_ofNat_of_zero_le hf.1
      have hm2 : m ≤ 2 := by omega
      have hne : (nm.toList == x0.toList) = true := by simp [he]
      clear hf he hpl
      by_cases hsh : (ws.length : Int) < 1 + (m : Int)
      · rw [if_pos hsh] at h
        have HN : Hid (refPL k a0 ws (rows.drop (q + 1)) ((q + 1 : Nat) : Int) = some (r1, r2, r3, r4)) := Lib.hid (by rw [HC.out]; exact h)
        have hsb : decide ((ws.length : Int) < 1 + (m : Int)) = true := decide_eq_true hsh
        clear h
        go_wp2
        go_quiet (fail)
        go_wp2
        go_roundw
        case rel => exact ⟨q + 1, by omega, by go_num, HN, Lib.hid (pw_below_drewN hBr.out _)⟩
        case measure => simp [intOf]; omega
      rw [if_neg hsh] at h
      obtain ⟨ns, hns, h⟩ := Option.bind_eq_some_iff.1 h
      obtain ⟨b, hb, h⟩ := Option.bind_eq_some_iff.1 h
      rw [Int.toNat_natCast] at hns hb h
      have hsb : decide ((ws.length : Int) < 1 + (m : Int)) = false := decide_eq_false hsh
      go_wp2
      go_quiet (fail)
      rename_i nq
      have HBz : Hid (Below w3.heap.size w3 (wr.drewN nq)) := Lib.hid (pw_below_drewN hBr.out nq)
      obtain ⟨n1, n2⟩ := refNums_get k _ ns hns
      have HN1 : Hid (ns.length = m) := Lib.hid (by rw [n1, List.length_drop, List.length_take]; omega)
      have HN2 : Hid (∀ p, p < m → ∃ b, logbookref32_Number.f k (ws.getD (1 + p) ByteArray.empty) = some (ns.getD p 0, b)) := Lib.hid (by
        intro p hp
        obtain ⟨b, hb⟩ := n2 p (by rw [List.length_drop, List.length_take]; omega)
        refine ⟨b, ?_⟩
        rw [← hb, List.getD_eq_getElem?_getD, List.getD_eq_getElem?_getD, List.getElem?_drop, List.getElem?_take, if_pos (by omega)])
      have HB1 := Lib.hid hb
      have HH := Lib.hid h
      obtain ⟨AT, cT, hrest, hcT, hCT⟩ := ref_rest g ws.length c0 m (by omega) hcR1
      have HCT := Lib.hid hCT
      clear hCT
      clear h hb hns n1 n2 hn0 hn1 hw0 hsb hne
      generalize wr.drewN nq = wz at HBz ⊢
      have HO := Lib.hid (heap_alloc_new wz (.cells #[.int .i64 0, .slice none 0 0, .slice none 0 0] 30))
      go_wp2_with (first
        | (refine store_ev rfl 30 _ _ rfl rfl wz.heap.size #[.int .i64 ((q : Int) + 1), .slice none 0 0, .slice none 0 0] rfl rfl 30 _ HO.out (by kernel_rfl) (by kernel_rfl) (by kernel_rfl) ?_; intro w4 hb4 hp4; have HB4 := Lib.hid hb4; have HBB : Hid (Below w3.heap.size w3 w4) := Lib.hid (hp4.below (HBz.out.alloc HBz.out.size _) HBz.out.size); clear hb4 hp4))
      obtain ⟨G, hG⟩ : ∃ G, G = wz.heap.size := ⟨_, rfl⟩
      have HG : Hid (w3.heap.size ≤ G) := Lib.hid (by rw [hG]; exact HBz.out.size)
      rw [← hG] at HB4 ⊢
      clear HBz HO hG hBr
      go_loopw [9] (fun i wt => ∃ (p : Nat) (v : Value), p ≤ m ∧ i = .int .i64 ((p : Int) + 1) ∧ Hid (wt.heap[G]? = some (.cells #[.int .i64 ((q : Int) + 1), v, .slice none 0 0] 30 (0, 0))) ∧ Hid (Kd.R (Kd.int .u64) 47 wt w3.heap.size (fun _ => True) v (ns.take p)) ∧ Hid (Below w3.heap.size w3 wt)) (fun i _ => m + 1 - (intOf i).toNat)
      case atStart => exact ⟨0, _, Nat.zero_le _, rfl, HB4, Lib.hid (Kd.R_nil _ _ _ _ _), HBB⟩
      case round =>
        obtain ⟨p, v, hp, rfl, hO, hV, hBt⟩ := hrel
        have hBtz := hBt.out.size
        obtain ⟨_, hn1⟩ := ref_row (Kd.R_below HRR.out hBt.out) q hlt
        rw [← HF1.out] at hn1
        by_cases hlt2 : p < m
        · have hcell : wr.cell? ⟨g, p + 1, none⟩ = some (.string (ws.getD (1 + p) ByteArray.empty)) := by
            rw [Below.cell hBt.out (p := ⟨g, p + 1, none⟩) hg3, Nat.add_comm 1 p]
            exact R_str HR3.out (p + 1) (by omega)
          obtain ⟨bb, hnum⟩ := HN2.out p hlt2
          have htk : ns.take (p + 1) = ns.take p ++ [ns.getD p 0] := by
            have hl : p < ns.length := by rw [HN1.out]; exact hlt2
            rw [List.take_succ_eq_append_getElem hl, List.getD_eq_getElem?_getD, List.getElem?_eq_getElem hl]
            rfl
          generalize ws.getD (1 + p) ByteArray.empty = x at hcell hnum
          generalize ns.getD p 0 = nv at hnum htk
          have HNUM := Lib.hid hnum
          have HTK := Lib.hid htk
          have HL := Lib.hid (show ((ns.take p).length + 1) * 8 ≤ 140737488355328 by
            rw [List.length_take]
            omega)
          have p0 : (0 : Int) ≤ (p : Int) + 1 := by omega
          have p1 : (p : Int) + 1 ≤ (m : Int) := by omega
          have p2 : (p : Int) + 1 < (ws.length : Int) := by omega
          have p3 : ((p : Int) + 1).toNat = p + 1 := by omega
          clear hnum htk
          go_wp2_with (first
            | (go_at_call 24; (with_reducible refine (logbookref32_Number.calls k x nv bb _ HNUM.out).mono ?_); rintro e w6 ⟨rfl, hb6⟩; have HB6 : Hid (Below w3.heap.size w3 w6) := Lib.hid (hBt.out.trans (hb6.mono hBtz)); have HO6 := Lib.hid (blk_below hO.out hb6); have HV6 := Lib.hid (Kd.R_below hV.out hb6); have hc6 := blk_cell HO6.out 1; simp at hc6; have hs6 := HB6.out.size; clear hb6 hcell)
            | (at_builtin; refine Kd.R_append (Kd.int .u64) (w0 := w3) w3.heap.size rfl (.tmp 73) (.tmp 75) 23 47 (.int .u64 0) 8 rfl Tryd.underlying23 ref_u64 rfl (by decide) (by omega) _ (ns.take p) nv [.int .u64 nv] (fun _ => True) (fun _ => False) rfl rfl rfl (fun _ hk => hk.elim) (fun _ _ => trivial) HV6.out HB6.out hs6 HL.out ?_; intro v1 w7 hv1 hb7 hg7 _; obtain ⟨Av1, cv1, rfl⟩ := Kd.R_slice hv1; have HV7 := Lib.hid hv1; have HB7 := Lib.hid hb7; have HO7 := Lib.hid (blk_grown HO6.out hg7 (Kd.R_ne HV6.out HO6.out (by decide))); have hc7 := blk_cell HO7.out 1; have hf7 := blk_frozen HO7.out 1; simp at hc7; clear hv1 hb7 hg7 hc6))
          go_roundw
          case rel => exact ⟨p + 1, _, by omega, by go_num, Lib.hid (blk_put HO7.out 1 _ rfl), Lib.hid (by rw [HTK.out]; have z := Kd.R_set HV7.out HO7.out (by decide) 1 (.slice Av1 (min p ns.length + 1) cv1); rw [List.length_append, List.length_take] at z; exact z), Lib.hid (HB7.out.setCell HG.out _)⟩
          case measure => simp [intOf]; omega
        · have hpe : ns.take p = ns := List.take_of_length_le (by rw [HN1.out]; omega)
          obtain rfl : p = m := by omega
          rw [hpe] at hV
          clear hpe
          obtain ⟨Av, cv, rfl⟩ := Kd.R_slice hV.out
          have h0c := blk_cell hO.out 0
          have h1c := blk_cell hO.out 1
          have h2c := blk_cell hO.out 2
          have h2f := blk_frozen hO.out 2
          simp at h0c h1c h2c
          have hlen : (ws.drop (1 + p)).length = ws.length - (1 + p) := List.length_drop
          have hO8 := blk_put hO.out 2 (.slice AT (ws.length - (1 + p)) cT) rfl
          have hV8 := Kd.R_set hV.out hO.out (by decide) 2 (.slice AT (ws.length - (1 + p)) cT)
          have hB8 := hBt.out.setCell (p := ⟨G, 2, none⟩) HG.out (.slice AT (ws.length - (1 + p)) cT)
          have hR8 := Kd.R_below HR3.out hB8
          have hT8 := HCT.out ws _ rfl (Kd.R_reads' hR8).2.2
          have hcallR : Calls Tryd.prog 16 #[.agg #[.int .i64 ((q : Int) + 1), .slice Av ns.length cv, .slice AT (ws.length - (1 + p)) cT]] (wr.setCell ⟨G, 2, none⟩ (.slice AT (ws.length - (1 + p)) cT)) fun e w' => e = .returned (.bool b) ∧ Below (wr.setCell ⟨G, 2, none⟩ (.slice AT (ws.length - (1 + p)) cT)).heap.size (wr.setCell ⟨G, 2, none⟩ (.slice AT (ws.length - (1 + p)) cT)) w' := by
            have z := logbookref46_Right.calls k ((q : Int) + 1) Av cv ns AT cT (ws.drop (1 + p)) b (wr.setCell ⟨G, 2, none⟩ (.slice AT (ws.length - (1 + p)) cT)) (Kd.R_reads' hV8).2.2 (Kd.R_reads' hV8).2.1 (by rw [hlen]; exact hT8) (by rw [hlen]; exact hcT) HB1.out
            rw [hlen] at z
            exact z
          have HCALL := Lib.hid hcallR
          have HO8 := Lib.hid hO8
          have HV8 := Lib.hid hV8
          have HB8 := Lib.hid hB8
          have HLEN := Lib.hid hlen
          clear hO8 hV8 hB8 hR8 hT8 hcallR hlen
          have h := HH.out
          clear HH HB1
          cases b
          · have HN : Hid (refPL k a0 ws (rows.drop (q + 1)) ((q + 1 : Nat) : Int) = some (r1, r2, r3, r4)) := Lib.hid (by rw [HC.out]; simpa using h)
            clear h
            go_wp2_with (first
              | (go_at_call 16; (with_reducible refine HCALL.out.mono ?_); rintro e w8 ⟨rfl, hb8⟩; have HB9 : Hid (Below w3.heap.size w3 w8) := Lib.hid (HB8.out.trans (hb8.mono HB8.out.size)); clear hb8))
            go_roundw
            case rel => exact ⟨q + 1, by omega, by go_num, HN, HB9⟩
            case measure => simp [intOf]; omega
          · rw [if_pos rfl] at h
            obtain ⟨s, hs, h⟩ := Option.bind_eq_some_iff.1 h
            have HLINE : Hid (∀ W : World, Kd.C (Kd.int .u64) W Av ns.length ns → ns.length ≤ cv → Kd.C Kd.string W AT (ws.length - (1 + p)) (ws.drop (1 + p)) → Calls Tryd.prog 18 #[.agg #[.int .i64 ((q : Int) + 1), .slice Av ns.length cv, .slice AT (ws.length - (1 + p)) cT]] W fun e w' => e = .returned (.string s) ∧ Below W.heap.size W w') := Lib.hid (by
              intro W g1 g2 g3
              have z := logbookref46_Line.calls k ((q : Int) + 1) Av cv ns AT cT (ws.drop (1 + p)) s W g1 g2 (by rw [HLEN.out]; exact g3) (by rw [HLEN.out]; exact hcT) hs
              rw [HLEN.out] at z
              exact z)
            clear hs
            by_cases hse : s.toList = a0.toList
            · rw [if_pos hse] at h
              have hz : Hid (r1 = (q : Int) + 1 ∧ r2 = ns ∧ r3 = ws.drop (1 + p) ∧ r4 = true) := Lib.hid (by
                simp only [Option.some.injEq, Prod.mk.injEq] at h
                obtain ⟨rfl, rfl, rfl, rfl⟩ := h
                exact ⟨rfl, rfl, rfl, rfl⟩)
              have hsb : (s.toList == a0.toList) = true := by simp [hse]
              clear h hse
              go_wp2_with (first
                | (go_at_call 16; (with_reducible refine HCALL.out.mono ?_); rintro e w8 ⟨rfl, hb8⟩; have HB9 : Hid (Below w3.heap.size w3 w8) := Lib.hid (HB8.out.trans (hb8.mono HB8.out.size)); have HO9 := Lib.hid (blk_below HO8.out hb8); have HV9 := Lib.hid (Kd.R_below HV8.out hb8); have HT9 := Lib.hid (HCT.out ws _ rfl (Kd.R_reads' (Kd.R_below HR3.out HB9.out)).2.2); have g0c := blk_cell HO9.out 0; have g1c := blk_cell HO9.out 1; have g2c := blk_cell HO9.out 2; simp at g0c g1c g2c; clear hb8)
                | (go_at_call 18; (with_reducible refine (HLINE.out _ (Kd.R_reads' HV9.out).2.2 (Kd.R_reads' HV9.out).2.1 HT9.out).mono ?_); rintro e w10 ⟨rfl, hb10⟩; have HB11 : Hid (Below w3.heap.size w3 w10) := Lib.hid (HB9.out.trans (hb10.mono HB9.out.size)); have HO11 := Lib.hid (blk_below HO9.out hb10); have HV11 := Lib.hid (Kd.R_below HV9.out hb10); clear g0c g1c g2c; have k0c := blk_cell HO11.out 0; have k1c := blk_cell HO11.out 1; have k2c := blk_cell HO11.out 2; simp at k0c k1c k2c; clear hb10)
                | (refine store_ev rfl 30 _ _ rfl rfl w.heap.size #[.int .i64 ((q : Int) + 1), .slice Av ns.length cv, .slice AT (ws.length - (1 + p)) cT] rfl rfl 30 _ (blk_below HBL3.out HB11.out) (by kernel_rfl) (by kernel_rfl) (by kernel_rfl) ?_; intro w12 hb12 hp12; have HB12 := Lib.hid hb12; have HP12 := Lib.hid hp12; clear hb12 hp12))
              refine bodyPost_ret (results_ct rfl _ _ w.heap.size 30 #[.int .i64 ((q : Int) + 1), .slice Av ns.length cv, .slice AT (ws.length - (1 + p)) cT] (0, 0) _ rfl HB12.out hu rfl (by kernel_rfl)) rfl ?_
              obtain ⟨rfl, rfl, rfl, rfl⟩ := hz.out
              have hV13 := HP12.out.R HV11.out (blk_below HBL3.out HB11.out) (by decide)
              have hR13 := HP12.out.R (Kd.R_below HR3.out HB11.out) (blk_below HBL3.out HB11.out) (by decide)
              refine ⟨Av, cv, AT, cT, by rw [HLEN.out]; rfl, (Kd.R_reads' hV13).2.1, (Kd.R_reads' hV13).2.2, by rw [HLEN.out]; exact hcT, by rw [HLEN.out]; exact HCT.out ws _ rfl (Kd.R_reads' hR13).2.2, HP12.out.below (HB3.out.trans (HB11.out.mono HB3.out.size)) (Nat.le_refl _)⟩
            · rw [if_neg hse] at h
              have HN : Hid (refPL k a0 ws (rows.drop (q + 1)) ((q + 1 : Nat) : Int) = some (r1, r2, r3, r4)) := Lib.hid (by rw [HC.out]; exact h)
              have hsb : (s.toList == a0.toList) = false := by simp [hse]
              clear h hse
              go_wp2_with (first
                | (go_at_call 16; (with_reducible refine HCALL.out.mono ?_); rintro e w8 ⟨rfl, hb8⟩; have HB9 : Hid (Below w3.heap.size w3 w8) := Lib.hid (HB8.out.trans (hb8.mono HB8.out.size)); have HO9 := Lib.hid (blk_below HO8.out hb8); have HV9 := Lib.hid (Kd.R_below HV8.out hb8); have HT9 := Lib.hid (HCT.out ws _ rfl (Kd.R_reads' (Kd.R_below HR3.out HB9.out)).2.2); have g0c := blk_cell HO9.out 0; have g1c := blk_cell HO9.out 1; have g2c := blk_cell HO9.out 2; simp at g0c g1c g2c; clear hb8)
                | (go_at_call 18; (with_reducible refine (HLINE.out _ (Kd.R_reads' HV9.out).2.2 (Kd.R_reads' HV9.out).2.1 HT9.out).mono ?_); rintro e w10 ⟨rfl, hb10⟩; have HB11 : Hid (Below w3.heap.size w3 w10) := Lib.hid (HB9.out.trans (hb10.mono HB9.out.size)); clear hb10))
              go_roundw
              case rel => exact ⟨q + 1, by omega, by go_num, HN, HB11⟩
              case measure => simp [intOf]; omega
    · have hz : Hid (r1 = 0 ∧ r2 = [] ∧ r3 = [] ∧ r4 = false) := Lib.hid (by
        have h := hpl.out
        rw [List.drop_of_length_le (by omega), refPL] at h
        simp only [Option.some.injEq, Prod.mk.injEq] at h
        obtain ⟨rfl, rfl, rfl, rfl⟩ := h
        exact ⟨rfl, rfl, rfl, rfl⟩)
      clear hpl
      go_wp2_with (first
        | (refine store_ev rfl 30 _ _ rfl rfl w.heap.size #[.int .i64 0, .slice none 0 0, .slice none 0 0] rfl rfl 30 _ (blk_below HBL3.out hBr.out) (by kernel_rfl) (by kernel_rfl) (by kernel_rfl) ?_; intro w9 hb9 hp9; have HB9 := Lib.hid hb9; have HP9 := Lib.hid hp9; clear hb9 hp9))
      refine bodyPost_ret (results_ct rfl _ _ w.heap.size 30 #[.int .i64 0, .slice none 0 0, .slice none 0 0] (0, 0) _ rfl HB9.out hu rfl (by kernel_rfl)) rfl ?_
      obtain ⟨rfl, rfl, rfl, rfl⟩ := hz.out
      exact RefOut.nil (HP9.out.below (HB3.out.trans (hBr.out.mono HB3.out.size)) (Nat.le_refl _))

-- GIVEN rounds=1 making=1 needs=logbook/logbooklaw46.awake,logbook/op.Parse,logbook/logbookref46.Parse,logbook/logbooklaw46.same
/-! ### OpReads: by hand: structs handed from call to call -/
def logbooklaw46_OpReads.f (k : Nat) (a0 : ByteArray) : Option Bool :=
  if 3000 < a0.size then logbooklaw46_awake.f k else
  (op_Parse.f k a0).bind fun x => (logbookref46_Parse.f k a0).bind fun r => (logbooklaw46_same.f k x.1 x.2.1 x.2.2.1 r.1 r.2.1 r.2.2.1).bind fun s =>
  if s = true ∧ ((x.2.2.2 = 0 ∧ r.2.2.2 = true) ∨ (x.2.2.2 = 1 ∧ r.2.2.2 = false)) then logbooklaw46_awake.f k else none
set_option maxHeartbeats 6400000 in
theorem logbooklaw46_OpReads.calls (k : Nat) (a0 : ByteArray) (r : Bool) (w : World) (h : logbooklaw46_OpReads.f k a0 = some r) :
    Calls Tryd.prog 3 #[.string a0] w fun e w' => e = .returned (.bool r) ∧ Below w.heap.size w w' := by
  unfold logbooklaw46_OpReads.f at h
  by_cases hs : 3000 < a0.size
  · rw [if_pos hs] at h
    have HA := Lib.hid h
    have hs' : (3000 : Int) < (a0.size : Int) := by omega
    clear h
    go_enter Tryd.func3, Tryd.ntmps3
    go_wp2_with (first
      | (go_at_call 6; (with_reducible refine (logbooklaw46_awake.calls k r _ HA.out).mono ?_); rintro e w2 ⟨rfl, hb2⟩))
    go_ret
    exact ⟨rfl, hb2⟩
  rw [if_neg hs] at h
  have hs' : ¬ (3000 : Int) < (a0.size : Int) := by omega
  obtain ⟨⟨x1, x2, x3, x4⟩, h1, h2⟩ := Option.bind_eq_some_iff.1 h
  clear h
  obtain ⟨⟨y1, y2, y3, y4⟩, h3, h4⟩ := Option.bind_eq_some_iff.1 h2
  clear h2
  obtain ⟨s, h5, h6⟩ := Option.bind_eq_some_iff.1 h4
  clear h4
  by_cases hc : s = true ∧ ((x4 = 0 ∧ y4 = true) ∨ (x4 = 1 ∧ y4 = false))
  case neg => rw [if_neg hc] at h6; cases h6
  rw [if_pos hc] at h6
  obtain ⟨rfl, hc⟩ := hc
  have HS : Hid (∀ (W : World) (A1 : Option Addr) (c1 : Nat) (A2 : Option Addr) (c2 : Nat) (B1 : Option Addr) (d1 : Nat) (B2 : Option Addr) (d2 : Nat), Kd.C (Kd.int .u64) W A1 x2.length x2 → x2.length ≤ c1 → Kd.C Kd.string W A2 x3.length x3 → x3.length ≤ c2 → Kd.C (Kd.int .u64) W B1 y2.length y2 → y2.length ≤ d1 → Kd.C Kd.string W B2 y3.length y3 → y3.length ≤ d2 →
      Calls Tryd.prog 9 #[.agg #[.int .i64 x1, .slice A1 x2.length c1, .slice A2 x3.length c2], .agg #[.int .i64 y1, .slice B1 y2.length d1, .slice B2 y3.length d2]] W fun e w' => e = .returned (.bool true) ∧ Below W.heap.size W w') :=
    Lib.hid (fun W A1 c1 A2 c2 B1 d1 B2 d2 g1 g2 g3 g4 g5 g6 g7 g8 => logbooklaw46_same.calls k x1 A1 c1 x2 A2 c2 x3 y1 B1 d1 y2 B2 d2 y3 true W g1 g2 g3 g4 g5 g6 g7 g8 h5)
  have HP := Lib.hid h1
  have HQ := Lib.hid h3
  have HA := Lib.hid h6
  clear h1 h3 h5 h6
  rcases hc with ⟨rfl, rfl⟩ | ⟨rfl, rfl⟩
  all_goals
    go_enter Tryd.func3, Tryd.ntmps3
    go_wp2_with (first
      | (go_at_call 7; (with_reducible refine (op_Parse.calls k a0 x1 x2 x3 _ _ HP.out).mono ?_); rintro e w2 ⟨A1, c1, A2, c2, rfl, hc1, hC1, hc2, hC2, hb2⟩; have HC1 := Lib.hid hC1; have HC2 := Lib.hid hC2; have HB2 := Lib.hid hb2; have HO := Lib.hid (heap_alloc_new w2 (.cells #[.int .i64 0, .slice none 0 0, .slice none 0 0] 26)); clear hC1 hC2 hb2)
      | (refine store_ev rfl 26 _ _ rfl rfl w2.heap.size #[.int .i64 x1, .slice A1 x2.length c1, .slice A2 x3.length c2] rfl rfl 26 _ HO.out (by kernel_rfl) (by kernel_rfl) (by kernel_rfl) ?_; intro w4 hb4 hp4; have HO4 := Lib.hid hb4; have HB4 : Hid (Below w2.heap.size w2 w4) := Lib.hid (hp4.below ((Below.refl _ _).alloc (Nat.le_refl _) _) (Nat.le_refl _)); clear hb4 hp4)
      | (go_at_call 8; (with_reducible refine (logbookref46_Parse.calls k a0 y1 y2 y3 _ _ HQ.out).mono ?_); rintro e w5 ⟨B1, d1, B2, d2, rfl, hd1, hD1, hd2, hD2, hb5⟩; have HD1 := Lib.hid hD1; have HD2 := Lib.hid hD2; have HO5 := Lib.hid (blk_below HO4.out hb5); have HB5 : Hid (Below w2.heap.size w2 w5) := Lib.hid (HB4.out.trans (hb5.mono HB4.out.size)); have HP5 := Lib.hid (heap_alloc_new w5 (.cells #[.int .i64 0, .slice none 0 0, .slice none 0 0] 30)); clear hD1 hD2 hb5)
      | (refine store_ev rfl 30 _ _ rfl rfl w5.heap.size #[.int .i64 y1, .slice B1 y2.length d1, .slice B2 y3.length d2] rfl rfl 30 _ HP5.out (by kernel_rfl) (by kernel_rfl) (by kernel_rfl) ?_; intro w7 hb7 hp7; have HB7' : Hid (Below w5.heap.size w5 w7) := Lib.hid (hp7.below ((Below.refl _ _).alloc (Nat.le_refl _) _) (Nat.le_refl _)); have g0c := blk_cell hb7 0; have g1c := blk_cell hb7 1; have g2c := blk_cell hb7 2; have hO7 := blk_below HO5.out HB7'.out; have k0c := blk_cell hO7 0; have k1c := blk_cell hO7 1; have k2c := blk_cell hO7 2; simp at g0c g1c g2c k0c k1c k2c; have HB7 : Hid (Below w2.heap.size w2 w7) := Lib.hid (HB5.out.trans (HB7'.out.mono HB5.out.size)); clear hb7 hp7 hO7)
      | (go_at_call 9; (with_reducible refine (HS.out w7 A1 c1 A2 c2 B1 d1 B2 d2 (Kd.C_below HC1.out HB7.out) hc1 (Kd.C_below HC2.out HB7.out) hc2 (Kd.C_below HD1.out HB7'.out) hd1 (Kd.C_below HD2.out HB7'.out) hd2).mono ?_); rintro e w8 ⟨rfl, hb8⟩; have HB8 : Hid (Below w2.heap.size w2 w8) := Lib.hid (HB7.out.trans (hb8.mono HB7.out.size)); clear hb8)
      | (go_at_call 6; (with_reducible refine (logbooklaw46_awake.calls k r _ HA.out).mono ?_); rintro e w9 ⟨rfl, hb9⟩; have HB9 : Hid (Below w2.heap.size w2 w9) := Lib.hid (HB8.out.trans (hb9.mono HB8.out.size)); clear hb9))
    go_ret
    exact ⟨rfl, HB2.out.trans (HB9.out.mono HB2.out.size)⟩

end Go.Proofs.YtfhnmcjajpnhpaaDoor.POpReads
