-- LAID BY gprint.py: a scratch copy of the print, with functions that this session proved by hand among the printed ones
import Derived.Test.YtnjimfdgdefenaaPItemSortsx0
import Derived.Test.YtnjimfdgdefenaaPItemSortsx1
namespace Go.Proofs.Ytnjimfdgdefenaa.PItemSorts
open Go.RowKit Go.Proofs.YtnjimfdgdefenaaW.PrintWords Go.Proofs.YtnjimfdgdefenaaW.PrintLast Go.Proofs.Ytnjimfdgdefenaa.Conv Go.Proofs.YtnjimfdgdefenaaW.PrintMore
attribute [local go_sem] max2_int min2_int max_two min_two max_three min_three max_four min_four gtr_less   -- for this text's walks alone
set_option linter.unusedVariables false
set_option linter.unusedSimpArgs false

/-! ### logbookref04_Texts: function 12 -/
def logbookref04_Texts.l0 : Nat → List ByteArray → List ByteArray → Int → Option (Bool)
  | 0, _, _, _ => none
  | k + 1, x0, x1, x5 => if x5 < (x0.length : Int) then (if 0 ≤ x5 then (if x5 < (x1.length : Int) then (if (rdOf ByteArray.empty x0 x5).toList = (rdOf ByteArray.empty x1 x5).toList then (logbookref04_Texts.l0 k x0 x1 (wrap64 (x5 + 1))) else (some false)) else (none)) else (none)) else (some true)
def logbookref04_Texts.f (k : Nat) (l0 : List ByteArray) (l1 : List ByteArray) : Option (Bool) := if (l0.length : Int) = (l1.length : Int) then (logbookref04_Texts.l0 k l0 l1 0) else (some false)
theorem logbookref04_Texts.mono_l : ∀ k, (∀ y0 y1 y2, LeO (logbookref04_Texts.l0 k y0 y1 y2) (logbookref04_Texts.l0 (k + 1) y0 y1 y2))
  | 0 => fun _ _ _ r h => by simp [logbookref04_Texts.l0] at h
  | k + 1 => by
    have ih0 := logbookref04_Texts.mono_l k
    · intro y0 y1 y2
      unfold logbookref04_Texts.l0
      repeat' first
      | (with_reducible exact ih0 _ _ _)
      | (with_reducible exact LeO.refl _)
      | (with_reducible exact LeO.none _)
      | (with_reducible refine LeO.ite ?_ ?_)
      | (with_reducible refine LeO.bind ?_ (fun _ => ?_))
      | exact ih0 _ _ _
      | exact LeO.none _
      | refine LeO.ite ?_ ?_
      | refine LeO.bind ?_ (fun _ => ?_)
theorem logbookref04_Texts.mono : ∀ a0 a1 k, LeO (logbookref04_Texts.f k a0 a1) (logbookref04_Texts.f (k + 1) a0 a1) := by
  intro a0 a1 k
  have ih0 := logbookref04_Texts.mono_l k
  unfold logbookref04_Texts.f
  repeat' first
      | (with_reducible exact ih0 _ _ _)
      | (with_reducible exact LeO.refl _)
      | (with_reducible exact LeO.none _)
      | (with_reducible refine LeO.ite ?_ ?_)
      | (with_reducible refine LeO.bind ?_ (fun _ => ?_))
      | exact ih0 _ _ _
      | exact LeO.none _
      | refine LeO.ite ?_ ?_
      | refine LeO.bind ?_ (fun _ => ?_)
set_option maxHeartbeats 8000000 in
set_option maxRecDepth 100000 in
theorem logbookref04_Texts.calls (k : Nat) (A0 : Option Addr) (c0 : Nat) (l0 : List ByteArray) (A1 : Option Addr) (c1 : Nat) (l1 : List ByteArray) (r : Bool) (w : World) (hr0 : Kd.C Kd.string w A0 l0.length l0) (hc0 : l0.length ≤ c0) (hr1 : Kd.C Kd.string w A1 l1.length l1) (hc1 : l1.length ≤ c1) (h : logbookref04_Texts.f k l0 l1 = some r) :
    Calls Try.prog 12 #[.slice A0 l0.length c0, .slice A1 l1.length c1] w fun e w' => e = .returned (.bool r) ∧ Drawn0 w w' := by
  have HR0 := Aside0.mk hr0
  have HC0 := Aside0.mk hc0
  clear hr0 hc0
  have HR1 := Aside0.mk hr1
  have HC1 := Aside0.mk hc1
  clear hr1 hc1
  have H : (if (l0.length : Int) = (l1.length : Int) then (logbookref04_Texts.l0 k l0 l1 0) else (some false)) = some r := h
  clear h
  by_cases c3 : (l0.length : Int) = (l1.length : Int)
  · rw [if_pos c3] at H
    have c3b0 : ((l0.length : Int) == (l1.length : Int)) = true := beq_iff_eq.mpr c3
    have c3b1 : ((l0.length : Int) != (l1.length : Int)) = false := bne_eq_false_iff_eq.mpr c3
    have c3b2 : (l0.length == l1.length) = true := by first | simpa using c3 | (simp at c3 ⊢; omega)
    clear c3
    have H' := Aside0.mk H
    clear H
    go_enter Try.func12, Try.ntmps12
    go_wp2
    repeat (go_quiet (fail); try go_wp2)
    go_loopg [5] k (fun kq v5 w' => ∃ (x5_1 : Int), v5 = .int .i64 x5_1 ∧ Aside0 (logbookref04_Texts.l0 kq l0 l1 x5_1 = some r) ∧ Aside0 (kq ≤ k) ∧ Drawn0 w w')
    case atStart => exact ⟨(0), (by first | rfl | (simp; done) | (simp [*]; done) | exact isEmpty_bne _), H', ⟨Nat.le_refl _⟩, by repeat (first | exact Drawn0.refl _ | apply Drawn0.step)⟩
    case round =>
      clear H'
      try clear c1
      try clear p2
      try clear c3
      try clear c3b0
      try clear c3b1
      try clear c3b2
      obtain ⟨x5_1, rfl, HA, HK1, ⟨m1, rfl⟩⟩ := hrel
      cases gk with
      | zero => exact absurd HA.out (by simp [logbookref04_Texts.l0])
      | succ k1 =>
        have H := HA.out
        clear HA
        simp only [logbookref04_Texts.l0] at H
        by_cases c4 : x5_1 < (l0.length : Int)
        · rw [if_pos c4] at H
          have c4b0 : decide (x5_1 < (l0.length : Int)) = true := decide_eq_true c4
          clear c4
          by_cases c5 : 0 ≤ x5_1
          · rw [if_pos c5] at H
            have c5b0 : decide (0 ≤ x5_1) = true := decide_eq_true c5
            clear c5
            by_cases c6 : x5_1 < (l1.length : Int)
            · rw [if_pos c6] at H
              have c6b0 : decide (x5_1 < (l1.length : Int)) = true := decide_eq_true c6
              clear c6
              by_cases c7 : (rdOf ByteArray.empty l0 x5_1).toList = (rdOf ByteArray.empty l1 x5_1).toList
              · rw [if_pos c7] at H
                have c7b0 : ((rdOf ByteArray.empty l0 x5_1).toList == (rdOf ByteArray.empty l1 x5_1).toList) = true := beq_iff_eq.mpr c7
                have c7b1 : ((rdOf ByteArray.empty l0 x5_1).toList != (rdOf ByteArray.empty l1 x5_1).toList) = false := bne_eq_false_iff_eq.mpr c7
                clear c7
                have H' := Aside0.mk H
                clear H
                have p121 : 0 ≤ (x5_1 : Int) := of_decide_eq_true (by first | (with_reducible assumption) | assumption)
                have q121 : x5_1 < (l0.length : Int) := of_decide_eq_true (by first | (with_reducible assumption) | assumption)
                obtain ⟨ad121, e121, hx121_0⟩ := Kd.at_string HR0.out x5_1 p121 q121
                cases e121
                replace p121 := eq_true p121
                replace q121 := eq_true q121
                have p122 : 0 ≤ (x5_1 : Int) := of_decide_eq_true (by first | (with_reducible assumption) | assumption)
                have q122 : x5_1 < (l1.length : Int) := of_decide_eq_true (by first | (with_reducible assumption) | assumption)
                obtain ⟨ad122, e122, hx122_0⟩ := Kd.at_string HR1.out x5_1 p122 q122
                cases e122
                replace p122 := eq_true p122
                replace q122 := eq_true q122
                go_wp2
                repeat (go_quiet (fail); try go_wp2)
                go_roundg k1
                case measure => have := HK1.out; omega
                case rel => exact ⟨(wrap64 (x5_1 + 1)), (by first | rfl | (simp; done) | (simp [*]; done) | exact isEmpty_bne _), H', ⟨by have := HK1.out; omega⟩, by repeat (first | exact Drawn0.refl _ | apply Drawn0.step)⟩
              · rw [if_neg c7] at H
                have c7b0 : ((rdOf ByteArray.empty l0 x5_1).toList == (rdOf ByteArray.empty l1 x5_1).toList) = false := beq_eq_false_iff_ne.mpr c7
                have c7b1 : ((rdOf ByteArray.empty l0 x5_1).toList != (rdOf ByteArray.empty l1 x5_1).toList) = true := bne_iff_ne.mpr c7
                obtain rfl := Option.some.inj H
                have p121 : 0 ≤ (x5_1 : Int) := of_decide_eq_true (by first | (with_reducible assumption) | assumption)
                have q121 : x5_1 < (l0.length : Int) := of_decide_eq_true (by first | (with_reducible assumption) | assumption)
                obtain ⟨ad121, e121, hx121_0⟩ := Kd.at_string HR0.out x5_1 p121 q121
                cases e121
                replace p121 := eq_true p121
                replace q121 := eq_true q121
                have p122 : 0 ≤ (x5_1 : Int) := of_decide_eq_true (by first | (with_reducible assumption) | assumption)
                have q122 : x5_1 < (l1.length : Int) := of_decide_eq_true (by first | (with_reducible assumption) | assumption)
                obtain ⟨ad122, e122, hx122_0⟩ := Kd.at_string HR1.out x5_1 p122 q122
                cases e122
                replace p122 := eq_true p122
                replace q122 := eq_true q122
                go_wp2
                repeat (go_quiet (fail); try go_wp2)
                go_ret
                exact ⟨by first | rfl | (simp; done) | (simp [*]; done) | exact isEmpty_bne _, by repeat (first | exact Drawn0.refl _ | apply Drawn0.step)⟩
            · rw [if_neg c6] at H
              exact absurd H (by simp)
          · rw [if_neg c5] at H
            exact absurd H (by simp)
        · rw [if_neg c4] at H
          have c4b0 : decide (x5_1 < (l0.length : Int)) = false := decide_eq_false c4
          clear c4
          obtain rfl := Option.some.inj H
          go_wp2
          repeat (go_quiet (fail); try go_wp2)
          go_ret
          exact ⟨by first | rfl | (simp; done) | (simp [*]; done) | exact isEmpty_bne _, by repeat (first | exact Drawn0.refl _ | apply Drawn0.step)⟩
  · rw [if_neg c3] at H
    have c3b0 : ((l0.length : Int) == (l1.length : Int)) = false := beq_eq_false_iff_ne.mpr c3
    have c3b1 : ((l0.length : Int) != (l1.length : Int)) = true := bne_iff_ne.mpr c3
    have c3b2 : (l0.length == l1.length) = false := by first | simpa using c3 | (simp at c3 ⊢; omega)
    obtain rfl := Option.some.inj H
    go_enter Try.func12, Try.ntmps12
    go_wp2
    repeat (go_quiet (fail); try go_wp2)
    go_ret
    exact ⟨by first | rfl | (simp; done) | (simp [*]; done) | exact isEmpty_bne _, by repeat (first | exact Drawn0.refl _ | apply Drawn0.step)⟩

/-! ### logbooklaw04_awake: function 9 -/
def logbooklaw04_awake.f (k : Nat)  : Option (Bool) := (item_Check.f k (([(⟨#[66, 61, 50]⟩ : ByteArray), (⟨#[65, 61, 49]⟩ : ByteArray), (⟨#[66, 61, 50]⟩ : ByteArray)] : List ByteArray))).bind fun bt126 => ((item_Split.f (⟨#[65, 61, 98, 61, 99]⟩ : ByteArray)).bind fun bt130 => (if bt126.2 = 0 then ((logbookref04_Texts.f k bt126.1 (([(⟨#[65, 61, 49]⟩ : ByteArray), (⟨#[66, 61, 50]⟩ : ByteArray)] : List ByteArray))).bind fun t136 => (if t136 = true then (if bt130.1.toList = ([65] : List UInt8) then (if bt130.2.1.toList = ([98, 61, 99] : List UInt8) then (some bt130.2.2) else (some false)) else (some false)) else (some false))) else (some false)))
theorem logbooklaw04_awake.mono : ∀ k, LeO (logbooklaw04_awake.f k ) (logbooklaw04_awake.f (k + 1) ) := by
  intro  k
  unfold logbooklaw04_awake.f
  repeat' first
      | (with_reducible exact item_Check.mono _ _)
      | (with_reducible exact logbookref04_Texts.mono _ _ _)
      | (with_reducible exact LeO.refl _)
      | (with_reducible exact LeO.none _)
      | (with_reducible refine LeO.ite ?_ ?_)
      | (with_reducible refine LeO.bind ?_ (fun _ => ?_))
      | exact item_Check.mono _ _
      | exact logbookref04_Texts.mono _ _ _
      | exact LeO.none _
      | refine LeO.ite ?_ ?_
      | refine LeO.bind ?_ (fun _ => ?_)
set_option maxHeartbeats 8000000 in
set_option maxRecDepth 100000 in
theorem logbooklaw04_awake.calls (k : Nat)  (r : Bool) (w : World) (h : logbooklaw04_awake.f k  = some r) :
    Calls Try.prog 9 #[] w fun e w' => e = .returned (.bool r) ∧ Below w.heap.size w w' := by
  have HB := Aside0.mk (Below.refl w.heap.size w)
  have H : ((item_Check.f k (([(⟨#[66, 61, 50]⟩ : ByteArray), (⟨#[65, 61, 49]⟩ : ByteArray), (⟨#[66, 61, 50]⟩ : ByteArray)] : List ByteArray))).bind fun bt126 => ((item_Split.f (⟨#[65, 61, 98, 61, 99]⟩ : ByteArray)).bind fun bt130 => (if bt126.2 = 0 then ((logbookref04_Texts.f k bt126.1 (([(⟨#[65, 61, 49]⟩ : ByteArray), (⟨#[66, 61, 50]⟩ : ByteArray)] : List ByteArray))).bind fun t136 => (if t136 = true then (if bt130.1.toList = ([65] : List UInt8) then (if bt130.2.1.toList = ([98, 61, 99] : List UInt8) then (some bt130.2.2) else (some false)) else (some false)) else (some false))) else (some false)))) = some r := h
  clear h
  obtain ⟨y123, hy123⟩ : ∃ y_ : List ByteArray, y_ = (([(⟨#[66, 61, 50]⟩ : ByteArray), (⟨#[65, 61, 49]⟩ : ByteArray), (⟨#[66, 61, 50]⟩ : ByteArray)] : List ByteArray)) := ⟨_, rfl⟩
  replace H : ((item_Check.f k y123).bind fun bt126 => ((item_Split.f (⟨#[65, 61, 98, 61, 99]⟩ : ByteArray)).bind fun bt130 => (if bt126.2 = 0 then ((logbookref04_Texts.f k bt126.1 (([(⟨#[65, 61, 49]⟩ : ByteArray), (⟨#[66, 61, 50]⟩ : ByteArray)] : List ByteArray))).bind fun t136 => (if t136 = true then (if bt130.1.toList = ([65] : List UInt8) then (if bt130.2.1.toList = ([98, 61, 99] : List UInt8) then (some bt130.2.2) else (some false)) else (some false)) else (some false))) else (some false)))) = some r := by first | (rw [hy123]; with_reducible exact H) | (have H2_ := (Option.bind_some _ _).symm.trans H; rw [hy123]; with_reducible exact H2_) | (have H2_ := (Option.bind_some _ _).symm.trans H; with_reducible exact H2_) | with_reducible exact H | (rw [hy123]; exact H) | exact H
  have Ny123 := Aside0.mk hy123
  clear hy123
  replace H := Option.bind_eq_some_iff.mp H
  obtain ⟨⟨t126, t127⟩, A10, H⟩ := H
  replace H : ((item_Split.f (⟨#[65, 61, 98, 61, 99]⟩ : ByteArray)).bind fun bt130 => (if t127 = 0 then ((logbookref04_Texts.f k t126 (([(⟨#[65, 61, 49]⟩ : ByteArray), (⟨#[66, 61, 50]⟩ : ByteArray)] : List ByteArray))).bind fun t136 => (if t136 = true then (if bt130.1.toList = ([65] : List UInt8) then (if bt130.2.1.toList = ([98, 61, 99] : List UInt8) then (some bt130.2.2) else (some false)) else (some false)) else (some false))) else (some false))) = some r := H
  have A1 := Aside0.mk A10
  clear A10
  replace H := Option.bind_eq_some_iff.mp H
  obtain ⟨⟨t130, t131, t132⟩, A20, H⟩ := H
  replace H : (if t127 = 0 then ((logbookref04_Texts.f k t126 (([(⟨#[65, 61, 49]⟩ : ByteArray), (⟨#[66, 61, 50]⟩ : ByteArray)] : List ByteArray))).bind fun t136 => (if t136 = true then (if t130.toList = ([65] : List UInt8) then (if t131.toList = ([98, 61, 99] : List UInt8) then (some t132) else (some false)) else (some false)) else (some false))) else (some false)) = some r := H
  have A2 := Aside0.mk A20
  clear A20
  by_cases c3 : t127 = 0
  · rw [if_pos c3] at H
    have c3b0 : (t127 == 0) = true := beq_iff_eq.mpr c3
    have c3b1 : (t127 != 0) = false := bne_eq_false_iff_eq.mpr c3
    clear c3
    obtain ⟨y133, hy133⟩ : ∃ y_ : List ByteArray, y_ = (([(⟨#[65, 61, 49]⟩ : ByteArray), (⟨#[66, 61, 50]⟩ : ByteArray)] : List ByteArray)) := ⟨_, rfl⟩
    replace H : ((logbookref04_Texts.f k t126 y133).bind fun t136 => (if t136 = true then (if t130.toList = ([65] : List UInt8) then (if t131.toList = ([98, 61, 99] : List UInt8) then (some t132) else (some false)) else (some false)) else (some false))) = some r := by first | (rw [hy133]; with_reducible exact H) | (have H2_ := (Option.bind_some _ _).symm.trans H; rw [hy133]; with_reducible exact H2_) | (have H2_ := (Option.bind_some _ _).symm.trans H; with_reducible exact H2_) | with_reducible exact H | (rw [hy133]; exact H) | exact H
    have Ny133 := Aside0.mk hy133
    clear hy133
    replace H := Option.bind_eq_some_iff.mp H
    obtain ⟨t136, A40, H⟩ := H
    replace H : (if t136 = true then (if t130.toList = ([65] : List UInt8) then (if t131.toList = ([98, 61, 99] : List UInt8) then (some t132) else (some false)) else (some false)) else (some false)) = some r := H
    have A4 := Aside0.mk A40
    clear A40
    by_cases c5 : t136 = true
    · subst c5
      have H1 : (if t130.toList = ([65] : List UInt8) then (if t131.toList = ([98, 61, 99] : List UInt8) then (some t132) else (some false)) else (some false)) = some r := by rw [if_pos rfl] at H; exact H
      clear H
      have H := H1
      clear H1
      by_cases c6 : t130.toList = ([65] : List UInt8)
      · rw [if_pos c6] at H
        have c6b0 : (t130.toList == ([65] : List UInt8)) = true := beq_iff_eq.mpr c6
        have c6b1 : (t130.toList != ([65] : List UInt8)) = false := bne_eq_false_iff_eq.mpr c6
        clear c6
        by_cases c7 : t131.toList = ([98, 61, 99] : List UInt8)
        · rw [if_pos c7] at H
          have c7b0 : (t131.toList == ([98, 61, 99] : List UInt8)) = true := beq_iff_eq.mpr c7
          have c7b1 : (t131.toList != ([98, 61, 99] : List UInt8)) = false := bne_eq_false_iff_eq.mpr c7
          clear c7
          obtain rfl := Option.some.inj H
          go_enter Try.func9, Try.ntmps9
          go_wp2_with (first | ((with_reducible refine gate_dst (N := 7) rfl ?_); (try (refine gate_guard (by rfl) ?_; dsimp only)); refine Kd.R_lit Kd.string _ 9 ?hg (N := 7) ?hd (xs := ([(⟨#[66, 61, 50]⟩ : ByteArray), (⟨#[65, 61, 49]⟩ : ByteArray), (⟨#[66, 61, 50]⟩ : ByteArray)] : List ByteArray)) (inner := [.string (⟨#[66, 61, 50]⟩ : ByteArray), .string (⟨#[65, 61, 49]⟩ : ByteArray), .string (⟨#[66, 61, 50]⟩ : ByteArray)]) (ok := fun _ => True) (okp := fun _ => True) ?hr ?hp (fun _ hk => hk) trivial (Below.refl _ _) (Nat.le_refl _) (by simp) ?_; (case hd => rfl); (case hg => rfl); (case hr => first | (go_simp; done) | (go_simp; rfl)); (case hp => exact (Reps.one (show Kd.M Kd.string _ _ _ (⟨#[66, 61, 50]⟩ : ByteArray) [.string (⟨#[66, 61, 50]⟩ : ByteArray)] from rfl) (Reps.one (show Kd.M Kd.string _ _ _ (⟨#[65, 61, 49]⟩ : ByteArray) [.string (⟨#[65, 61, 49]⟩ : ByteArray)] from rfl) (Reps.one (show Kd.M Kd.string _ _ _ (⟨#[66, 61, 50]⟩ : ByteArray) [.string (⟨#[66, 61, 50]⟩ : ByteArray)] from rfl) (Reps.none _ _))))); intro v124 w8 ho9 hb hg_ hnew_; clear hg_ hnew_; (first | rw [← Ny123.out] at ho9 | (simp only [Int.reduceToNat] at ho9; rw [← Ny123.out] at ho9)); have n0_ := Aside0.mk (Kd.R_lower ho9 (below_size (by repeat (first | (with_reducible first | exact HB.out | apply below_alloc | apply pw_below_drewN | apply below_drew1) | exact HB.out)))); have n1_ := Aside0.mk (below_step (by repeat (first | (with_reducible first | exact HB.out | apply below_alloc | apply pw_below_drewN | apply below_drew1) | exact HB.out)) hb); clear HB; have HO125 := n0_; have HB := n1_; clear n0_ n1_; clear hb ho9; obtain ⟨Ao10, co10, eo10⟩ := Kd.R_slice HO125.out; subst eo10) | ((with_reducible refine gate_callee (f := 10) rfl ?_); refine goesL_ (some 8) rfl rfl Try.func10 (by kernel_rfl) rfl #[.slice Ao10 y123.length co10] rfl (by (try simp only [List.map_toArray, List.map_cons, List.map_nil]); first | done | rfl | (simp only [List.length_drop, List.length_take]; rfl)) ?_; (with_reducible refine (item_Check.calls k _ _ y123 t126 t127 _ ?side1 ?side2 A1.out).mono ?_); (case side1 => repeat (first | exact (Kd.R_reads' HO125.out).2.2 | (with_reducible refine Kd.C_alloc ?_ _) | (with_reducible refine Kd.C_drewN ?_ _) | (with_reducible refine Kd.C_drew ?_))); (case side2 => exact (Kd.R_reads' HO125.out).2.1); rintro e w11 ⟨v128, rfl, ho0, hb⟩; refine ⟨_, rfl, ?_⟩; have n0_ := Aside0.mk (Kd.R_elder' (by (with_reducible repeat (first | apply Kd.R_alloc | apply Kd.R_drewN | apply Kd.R_drew)); exact HO125.out) (Kd.R_base ho0) hb); have n1_ := Aside0.mk (Kd.R_lower (Kd.R_new' ho0 (Kd.R_lt (by (with_reducible repeat (first | apply Kd.R_alloc | apply Kd.R_drewN | apply Kd.R_drew)); exact HO125.out))) (below_size (by repeat (first | (with_reducible first | exact HB.out | apply below_alloc | apply pw_below_drewN | apply below_drew1) | exact HB.out)))); have n2_ := Aside0.mk (below_step (by repeat (first | (with_reducible first | exact HB.out | apply below_alloc | apply pw_below_drewN | apply below_drew1) | exact HB.out)) hb); clear HO125; clear HB; have HO125 := n0_; have HO129 := n1_; have HB := n2_; clear n0_ n1_ n2_; (try clear hb); (try clear hb2); (try clear hk); (try clear hi); (try clear ho0)) | ((with_reducible refine gate_callee (f := 13) rfl ?_); refine goesL_ (some 12) rfl rfl Try.func13 (by kernel_rfl) rfl #[.string (⟨#[65, 61, 98, 61, 99]⟩ : ByteArray)] rfl (by (try simp only [List.map_toArray, List.map_cons, List.map_nil]); first | done | rfl | (simp only [List.length_drop, List.length_take]; rfl)) ?_; (with_reducible refine (item_Split.calls (⟨#[65, 61, 98, 61, 99]⟩ : ByteArray) t130 t131 t132 _ A2.out).mono ?_); rintro e w12 ⟨rfl, hb⟩; refine ⟨_, rfl, ?_⟩; have n0_ := Aside0.mk (Kd.R_below (by (with_reducible repeat (first | apply Kd.R_alloc | apply Kd.R_drewN | apply Kd.R_drew)); exact HO125.out) hb); have n1_ := Aside0.mk (Kd.R_below (by (with_reducible repeat (first | apply Kd.R_alloc | apply Kd.R_drewN | apply Kd.R_drew)); exact HO129.out) hb); have n2_ := Aside0.mk (below_step (by repeat (first | (with_reducible first | exact HB.out | apply below_alloc | apply pw_below_drewN | apply below_drew1) | exact HB.out)) hb); clear HO125; clear HO129; clear HB; have HO125 := n0_; have HO129 := n1_; have HB := n2_; clear n0_ n1_ n2_; (try clear hb); (try clear hb2); (try clear hk); (try clear hi)) | ((with_reducible refine gate_dst (N := 20) rfl ?_); (try (refine gate_guard (by rfl) ?_; dsimp only)); refine Kd.R_lit Kd.string _ 9 ?hg (N := 20) ?hd (xs := ([(⟨#[65, 61, 49]⟩ : ByteArray), (⟨#[66, 61, 50]⟩ : ByteArray)] : List ByteArray)) (inner := [.string (⟨#[65, 61, 49]⟩ : ByteArray), .string (⟨#[66, 61, 50]⟩ : ByteArray)]) (ok := fun _ => True) (okp := fun _ => True) ?hr ?hp (fun _ hk => hk) trivial (Below.refl _ _) (Nat.le_refl _) (by simp) ?_; (case hd => rfl); (case hg => rfl); (case hr => first | (go_simp; done) | (go_simp; rfl)); (case hp => exact (Reps.one (show Kd.M Kd.string _ _ _ (⟨#[65, 61, 49]⟩ : ByteArray) [.string (⟨#[65, 61, 49]⟩ : ByteArray)] from rfl) (Reps.one (show Kd.M Kd.string _ _ _ (⟨#[66, 61, 50]⟩ : ByteArray) [.string (⟨#[66, 61, 50]⟩ : ByteArray)] from rfl) (Reps.none _ _)))); intro v134 w13 ho14 hb hg_ hnew_; clear hg_ hnew_; (first | rw [← Ny133.out] at ho14 | (simp only [Int.reduceToNat] at ho14; rw [← Ny133.out] at ho14)); have n0_ := Aside0.mk (Kd.R_elder' (by (with_reducible repeat (first | apply Kd.R_alloc | apply Kd.R_drewN | apply Kd.R_drew)); exact HO125.out) (Kd.R_base ho14) hb); have n1_ := Aside0.mk (Kd.R_elder' (by (with_reducible repeat (first | apply Kd.R_alloc | apply Kd.R_drewN | apply Kd.R_drew)); exact HO129.out) (Kd.R_base ho14) hb); have n2_ := Aside0.mk (Kd.R_lower (Kd.R_new' (Kd.R_new' ho14 (Kd.R_lt (by (with_reducible repeat (first | apply Kd.R_alloc | apply Kd.R_drewN | apply Kd.R_drew)); exact HO125.out))) (Kd.R_lt (by (with_reducible repeat (first | apply Kd.R_alloc | apply Kd.R_drewN | apply Kd.R_drew)); exact HO129.out))) (below_size (by repeat (first | (with_reducible first | exact HB.out | apply below_alloc | apply pw_below_drewN | apply below_drew1) | exact HB.out)))); have n3_ := Aside0.mk (below_step (by repeat (first | (with_reducible first | exact HB.out | apply below_alloc | apply pw_below_drewN | apply below_drew1) | exact HB.out)) hb); clear HO125; clear HO129; clear HB; have HO125 := n0_; have HO129 := n1_; have HO135 := n2_; have HB := n3_; clear n0_ n1_ n2_ n3_; clear hb ho14; obtain ⟨Ao15, co15, eo15⟩ := Kd.R_slice HO129.out; subst eo15; obtain ⟨Ao16, co16, eo16⟩ := Kd.R_slice HO135.out; subst eo16) | (go_at_call 12; (with_reducible refine (logbookref04_Texts.calls k _ _ t126 _ _ y133 true _ ?side1 ?side2 ?side3 ?side4 A4.out).mono ?_); (case side1 => repeat (first | exact (Kd.R_reads' HO129.out).2.2 | (with_reducible refine Kd.C_alloc ?_ _) | (with_reducible refine Kd.C_drewN ?_ _) | (with_reducible refine Kd.C_drew ?_))); (case side2 => exact (Kd.R_reads' HO129.out).2.1); (case side3 => repeat (first | exact (Kd.R_reads' HO135.out).2.2 | (with_reducible refine Kd.C_alloc ?_ _) | (with_reducible refine Kd.C_drewN ?_ _) | (with_reducible refine Kd.C_drew ?_))); (case side4 => exact (Kd.R_reads' HO135.out).2.1); rintro e w' ⟨rfl, ⟨nd, rfl⟩⟩))
          go_ret
          exact ⟨by first | rfl | (simp [errW_none, errW_some] <;> rfl) | (simp [*, errW_none, errW_some] <;> rfl), by repeat (first | (with_reducible first | exact HB.out | apply below_alloc | apply pw_below_drewN | apply below_drew1) | exact HB.out)⟩
        · rw [if_neg c7] at H
          have c7b0 : (t131.toList == ([98, 61, 99] : List UInt8)) = false := beq_eq_false_iff_ne.mpr c7
          have c7b1 : (t131.toList != ([98, 61, 99] : List UInt8)) = true := bne_iff_ne.mpr c7
          obtain rfl := Option.some.inj H
          go_enter Try.func9, Try.ntmps9
          go_wp2_with (first | ((with_reducible refine gate_dst (N := 7) rfl ?_); (try (refine gate_guard (by rfl) ?_; dsimp only)); refine Kd.R_lit Kd.string _ 9 ?hg (N := 7) ?hd (xs := ([(⟨#[66, 61, 50]⟩ : ByteArray), (⟨#[65, 61, 49]⟩ : ByteArray), (⟨#[66, 61, 50]⟩ : ByteArray)] : List ByteArray)) (inner := [.string (⟨#[66, 61, 50]⟩ : ByteArray), .string (⟨#[65, 61, 49]⟩ : ByteArray), .string (⟨#[66, 61, 50]⟩ : ByteArray)]) (ok := fun _ => True) (okp := fun _ => True) ?hr ?hp (fun _ hk => hk) trivial (Below.refl _ _) (Nat.le_refl _) (by simp) ?_; (case hd => rfl); (case hg => rfl); (case hr => first | (go_simp; done) | (go_simp; rfl)); (case hp => exact (Reps.one (show Kd.M Kd.string _ _ _ (⟨#[66, 61, 50]⟩ : ByteArray) [.string (⟨#[66, 61, 50]⟩ : ByteArray)] from rfl) (Reps.one (show Kd.M Kd.string _ _ _ (⟨#[65, 61, 49]⟩ : ByteArray) [.string (⟨#[65, 61, 49]⟩ : ByteArray)] from rfl) (Reps.one (show Kd.M Kd.string _ _ _ (⟨#[66, 61, 50]⟩ : ByteArray) [.string (⟨#[66, 61, 50]⟩ : ByteArray)] from rfl) (Reps.none _ _))))); intro v124 w17 ho18 hb hg_ hnew_; clear hg_ hnew_; (first | rw [← Ny123.out] at ho18 | (simp only [Int.reduceToNat] at ho18; rw [← Ny123.out] at ho18)); have n0_ := Aside0.mk (Kd.R_lower ho18 (below_size (by repeat (first | (with_reducible first | exact HB.out | apply below_alloc | apply pw_below_drewN | apply below_drew1) | exact HB.out)))); have n1_ := Aside0.mk (below_step (by repeat (first | (with_reducible first | exact HB.out | apply below_alloc | apply pw_below_drewN | apply below_drew1) | exact HB.out)) hb); clear HB; have HO125 := n0_; have HB := n1_; clear n0_ n1_; clear hb ho18; obtain ⟨Ao19, co19, eo19⟩ := Kd.R_slice HO125.out; subst eo19) | ((with_reducible refine gate_callee (f := 10) rfl ?_); refine goesL_ (some 8) rfl rfl Try.func10 (by kernel_rfl) rfl #[.slice Ao19 y123.length co19] rfl (by (try simp only [List.map_toArray, List.map_cons, List.map_nil]); first | done | rfl | (simp only [List.length_drop, List.length_take]; rfl)) ?_; (with_reducible refine (item_Check.calls k _ _ y123 t126 t127 _ ?side1 ?side2 A1.out).mono ?_); (case side1 => repeat (first | exact (Kd.R_reads' HO125.out).2.2 | (with_reducible refine Kd.C_alloc ?_ _) | (with_reducible refine Kd.C_drewN ?_ _) | (with_reducible refine Kd.C_drew ?_))); (case side2 => exact (Kd.R_reads' HO125.out).2.1); rintro e w20 ⟨v128, rfl, ho0, hb⟩; refine ⟨_, rfl, ?_⟩; have n0_ := Aside0.mk (Kd.R_elder' (by (with_reducible repeat (first | apply Kd.R_alloc | apply Kd.R_drewN | apply Kd.R_drew)); exact HO125.out) (Kd.R_base ho0) hb); have n1_ := Aside0.mk (Kd.R_lower (Kd.R_new' ho0 (Kd.R_lt (by (with_reducible repeat (first | apply Kd.R_alloc | apply Kd.R_drewN | apply Kd.R_drew)); exact HO125.out))) (below_size (by repeat (first | (with_reducible first | exact HB.out | apply below_alloc | apply pw_below_drewN | apply below_drew1) | exact HB.out)))); have n2_ := Aside0.mk (below_step (by repeat (first | (with_reducible first | exact HB.out | apply below_alloc | apply pw_below_drewN | apply below_drew1) | exact HB.out)) hb); clear HO125; clear HB; have HO125 := n0_; have HO129 := n1_; have HB := n2_; clear n0_ n1_ n2_; (try clear hb); (try clear hb2); (try clear hk); (try clear hi); (try clear ho0)) | ((with_reducible refine gate_callee (f := 13) rfl ?_); refine goesL_ (some 12) rfl rfl Try.func13 (by kernel_rfl) rfl #[.string (⟨#[65, 61, 98, 61, 99]⟩ : ByteArray)] rfl (by (try simp only [List.map_toArray, List.map_cons, List.map_nil]); first | done | rfl | (simp only [List.length_drop, List.length_take]; rfl)) ?_; (with_reducible refine (item_Split.calls (⟨#[65, 61, 98, 61, 99]⟩ : ByteArray) t130 t131 t132 _ A2.out).mono ?_); rintro e w21 ⟨rfl, hb⟩; refine ⟨_, rfl, ?_⟩; have n0_ := Aside0.mk (Kd.R_below (by (with_reducible repeat (first | apply Kd.R_alloc | apply Kd.R_drewN | apply Kd.R_drew)); exact HO125.out) hb); have n1_ := Aside0.mk (Kd.R_below (by (with_reducible repeat (first | apply Kd.R_alloc | apply Kd.R_drewN | apply Kd.R_drew)); exact HO129.out) hb); have n2_ := Aside0.mk (below_step (by repeat (first | (with_reducible first | exact HB.out | apply below_alloc | apply pw_below_drewN | apply below_drew1) | exact HB.out)) hb); clear HO125; clear HO129; clear HB; have HO125 := n0_; have HO129 := n1_; have HB := n2_; clear n0_ n1_ n2_; (try clear hb); (try clear hb2); (try clear hk); (try clear hi)) | ((with_reducible refine gate_dst (N := 20) rfl ?_); (try (refine gate_guard (by rfl) ?_; dsimp only)); refine Kd.R_lit Kd.string _ 9 ?hg (N := 20) ?hd (xs := ([(⟨#[65, 61, 49]⟩ : ByteArray), (⟨#[66, 61, 50]⟩ : ByteArray)] : List ByteArray)) (inner := [.string (⟨#[65, 61, 49]⟩ : ByteArray), .string (⟨#[66, 61, 50]⟩ : ByteArray)]) (ok := fun _ => True) (okp := fun _ => True) ?hr ?hp (fun _ hk => hk) trivial (Below.refl _ _) (Nat.le_refl _) (by simp) ?_; (case hd => rfl); (case hg => rfl); (case hr => first | (go_simp; done) | (go_simp; rfl)); (case hp => exact (Reps.one (show Kd.M Kd.string _ _ _ (⟨#[65, 61, 49]⟩ : ByteArray) [.string (⟨#[65, 61, 49]⟩ : ByteArray)] from rfl) (Reps.one (show Kd.M Kd.string _ _ _ (⟨#[66, 61, 50]⟩ : ByteArray) [.string (⟨#[66, 61, 50]⟩ : ByteArray)] from rfl) (Reps.none _ _)))); intro v134 w22 ho23 hb hg_ hnew_; clear hg_ hnew_; (first | rw [← Ny133.out] at ho23 | (simp only [Int.reduceToNat] at ho23; rw [← Ny133.out] at ho23)); have n0_ := Aside0.mk (Kd.R_elder' (by (with_reducible repeat (first | apply Kd.R_alloc | apply Kd.R_drewN | apply Kd.R_drew)); exact HO125.out) (Kd.R_base ho23) hb); have n1_ := Aside0.mk (Kd.R_elder' (by (with_reducible repeat (first | apply Kd.R_alloc | apply Kd.R_drewN | apply Kd.R_drew)); exact HO129.out) (Kd.R_base ho23) hb); have n2_ := Aside0.mk (Kd.R_lower (Kd.R_new' (Kd.R_new' ho23 (Kd.R_lt (by (with_reducible repeat (first | apply Kd.R_alloc | apply Kd.R_drewN | apply Kd.R_drew)); exact HO125.out))) (Kd.R_lt (by (with_reducible repeat (first | apply Kd.R_alloc | apply Kd.R_drewN | apply Kd.R_drew)); exact HO129.out))) (below_size (by repeat (first | (with_reducible first | exact HB.out | apply below_alloc | apply pw_below_drewN | apply below_drew1) | exact HB.out)))); have n3_ := Aside0.mk (below_step (by repeat (first | (with_reducible first | exact HB.out | apply below_alloc | apply pw_below_drewN | apply below_drew1) | exact HB.out)) hb); clear HO125; clear HO129; clear HB; have HO125 := n0_; have HO129 := n1_; have HO135 := n2_; have HB := n3_; clear n0_ n1_ n2_ n3_; clear hb ho23; obtain ⟨Ao24, co24, eo24⟩ := Kd.R_slice HO129.out; subst eo24; obtain ⟨Ao25, co25, eo25⟩ := Kd.R_slice HO135.out; subst eo25) | (go_at_call 12; (with_reducible refine (logbookref04_Texts.calls k _ _ t126 _ _ y133 true _ ?side1 ?side2 ?side3 ?side4 A4.out).mono ?_); (case side1 => repeat (first | exact (Kd.R_reads' HO129.out).2.2 | (with_reducible refine Kd.C_alloc ?_ _) | (with_reducible refine Kd.C_drewN ?_ _) | (with_reducible refine Kd.C_drew ?_))); (case side2 => exact (Kd.R_reads' HO129.out).2.1); (case side3 => repeat (first | exact (Kd.R_reads' HO135.out).2.2 | (with_reducible refine Kd.C_alloc ?_ _) | (with_reducible refine Kd.C_drewN ?_ _) | (with_reducible refine Kd.C_drew ?_))); (case side4 => exact (Kd.R_reads' HO135.out).2.1); rintro e w' ⟨rfl, ⟨nd, rfl⟩⟩))
          go_ret
          exact ⟨by first | rfl | (simp [errW_none, errW_some] <;> rfl) | (simp [*, errW_none, errW_some] <;> rfl), by repeat (first | (with_reducible first | exact HB.out | apply below_alloc | apply pw_below_drewN | apply below_drew1) | exact HB.out)⟩
      · rw [if_neg c6] at H
        have c6b0 : (t130.toList == ([65] : List UInt8)) = false := beq_eq_false_iff_ne.mpr c6
        have c6b1 : (t130.toList != ([65] : List UInt8)) = true := bne_iff_ne.mpr c6
        obtain rfl := Option.some.inj H
        go_enter Try.func9, Try.ntmps9
        go_wp2_with (first | ((with_reducible refine gate_dst (N := 7) rfl ?_); (try (refine gate_guard (by rfl) ?_; dsimp only)); refine Kd.R_lit Kd.string _ 9 ?hg (N := 7) ?hd (xs := ([(⟨#[66, 61, 50]⟩ : ByteArray), (⟨#[65, 61, 49]⟩ : ByteArray), (⟨#[66, 61, 50]⟩ : ByteArray)] : List ByteArray)) (inner := [.string (⟨#[66, 61, 50]⟩ : ByteArray), .string (⟨#[65, 61, 49]⟩ : ByteArray), .string (⟨#[66, 61, 50]⟩ : ByteArray)]) (ok := fun _ => True) (okp := fun _ => True) ?hr ?hp (fun _ hk => hk) trivial (Below.refl _ _) (Nat.le_refl _) (by simp) ?_; (case hd => rfl); (case hg => rfl); (case hr => first | (go_simp; done) | (go_simp; rfl)); (case hp => exact (Reps.one (show Kd.M Kd.string _ _ _ (⟨#[66, 61, 50]⟩ : ByteArray) [.string (⟨#[66, 61, 50]⟩ : ByteArray)] from rfl) (Reps.one (show Kd.M Kd.string _ _ _ (⟨#[65, 61, 49]⟩ : ByteArray) [.string (⟨#[65, 61, 49]⟩ : ByteArray)] from rfl) (Reps.one (show Kd.M Kd.string _ _ _ (⟨#[66, 61, 50]⟩ : ByteArray) [.string (⟨#[66, 61, 50]⟩ : ByteArray)] from rfl) (Reps.none _ _))))); intro v124 w26 ho27 hb hg_ hnew_; clear hg_ hnew_; (first | rw [← Ny123.out] at ho27 | (simp only [Int.reduceToNat] at ho27; rw [← Ny123.out] at ho27)); have n0_ := Aside0.mk (Kd.R_lower ho27 (below_size (by repeat (first | (with_reducible first | exact HB.out | apply below_alloc | apply pw_below_drewN | apply below_drew1) | exact HB.out)))); have n1_ := Aside0.mk (below_step (by repeat (first | (with_reducible first | exact HB.out | apply below_alloc | apply pw_below_drewN | apply below_drew1) | exact HB.out)) hb); clear HB; have HO125 := n0_; have HB := n1_; clear n0_ n1_; clear hb ho27; obtain ⟨Ao28, co28, eo28⟩ := Kd.R_slice HO125.out; subst eo28) | ((with_reducible refine gate_callee (f := 10) rfl ?_); refine goesL_ (some 8) rfl rfl Try.func10 (by kernel_rfl) rfl #[.slice Ao28 y123.length co28] rfl (by (try simp only [List.map_toArray, List.map_cons, List.map_nil]); first | done | rfl | (simp only [List.length_drop, List.length_take]; rfl)) ?_; (with_reducible refine (item_Check.calls k _ _ y123 t126 t127 _ ?side1 ?side2 A1.out).mono ?_); (case side1 => repeat (first | exact (Kd.R_reads' HO125.out).2.2 | (with_reducible refine Kd.C_alloc ?_ _) | (with_reducible refine Kd.C_drewN ?_ _) | (with_reducible refine Kd.C_drew ?_))); (case side2 => exact (Kd.R_reads' HO125.out).2.1); rintro e w29 ⟨v128, rfl, ho0, hb⟩; refine ⟨_, rfl, ?_⟩; have n0_ := Aside0.mk (Kd.R_elder' (by (with_reducible repeat (first | apply Kd.R_alloc | apply Kd.R_drewN | apply Kd.R_drew)); exact HO125.out) (Kd.R_base ho0) hb); have n1_ := Aside0.mk (Kd.R_lower (Kd.R_new' ho0 (Kd.R_lt (by (with_reducible repeat (first | apply Kd.R_alloc | apply Kd.R_drewN | apply Kd.R_drew)); exact HO125.out))) (below_size (by repeat (first | (with_reducible first | exact HB.out | apply below_alloc | apply pw_below_drewN | apply below_drew1) | exact HB.out)))); have n2_ := Aside0.mk (below_step (by repeat (first | (with_reducible first | exact HB.out | apply below_alloc | apply pw_below_drewN | apply below_drew1) | exact HB.out)) hb); clear HO125; clear HB; have HO125 := n0_; have HO129 := n1_; have HB := n2_; clear n0_ n1_ n2_; (try clear hb); (try clear hb2); (try clear hk); (try clear hi); (try clear ho0)) | ((with_reducible refine gate_callee (f := 13) rfl ?_); refine goesL_ (some 12) rfl rfl Try.func13 (by kernel_rfl) rfl #[.string (⟨#[65, 61, 98, 61, 99]⟩ : ByteArray)] rfl (by (try simp only [List.map_toArray, List.map_cons, List.map_nil]); first | done | rfl | (simp only [List.length_drop, List.length_take]; rfl)) ?_; (with_reducible refine (item_Split.calls (⟨#[65, 61, 98, 61, 99]⟩ : ByteArray) t130 t131 t132 _ A2.out).mono ?_); rintro e w30 ⟨rfl, hb⟩; refine ⟨_, rfl, ?_⟩; have n0_ := Aside0.mk (Kd.R_below (by (with_reducible repeat (first | apply Kd.R_alloc | apply Kd.R_drewN | apply Kd.R_drew)); exact HO125.out) hb); have n1_ := Aside0.mk (Kd.R_below (by (with_reducible repeat (first | apply Kd.R_alloc | apply Kd.R_drewN | apply Kd.R_drew)); exact HO129.out) hb); have n2_ := Aside0.mk (below_step (by repeat (first | (with_reducible first | exact HB.out | apply below_alloc | apply pw_below_drewN | apply below_drew1) | exact HB.out)) hb); clear HO125; clear HO129; clear HB; have HO125 := n0_; have HO129 := n1_; have HB := n2_; clear n0_ n1_ n2_; (try clear hb); (try clear hb2); (try clear hk); (try clear hi)) | ((with_reducible refine gate_dst (N := 20) rfl ?_); (try (refine gate_guard (by rfl) ?_; dsimp only)); refine Kd.R_lit Kd.string _ 9 ?hg (N := 20) ?hd (xs := ([(⟨#[65, 61, 49]⟩ : ByteArray), (⟨#[66, 61, 50]⟩ : ByteArray)] : List ByteArray)) (inner := [.string (⟨#[65, 61, 49]⟩ : ByteArray), .string (⟨#[66, 61, 50]⟩ : ByteArray)]) (ok := fun _ => True) (okp := fun _ => True) ?hr ?hp (fun _ hk => hk) trivial (Below.refl _ _) (Nat.le_refl _) (by simp) ?_; (case hd => rfl); (case hg => rfl); (case hr => first | (go_simp; done) | (go_simp; rfl)); (case hp => exact (Reps.one (show Kd.M Kd.string _ _ _ (⟨#[65, 61, 49]⟩ : ByteArray) [.string (⟨#[65, 61, 49]⟩ : ByteArray)] from rfl) (Reps.one (show Kd.M Kd.string _ _ _ (⟨#[66, 61, 50]⟩ : ByteArray) [.string (⟨#[66, 61, 50]⟩ : ByteArray)] from rfl) (Reps.none _ _)))); intro v134 w31 ho32 hb hg_ hnew_; clear hg_ hnew_; (first | rw [← Ny133.out] at ho32 | (simp only [Int.reduceToNat] at ho32; rw [← Ny133.out] at ho32)); have n0_ := Aside0.mk (Kd.R_elder' (by (with_reducible repeat (first | apply Kd.R_alloc | apply Kd.R_drewN | apply Kd.R_drew)); exact HO125.out) (Kd.R_base ho32) hb); have n1_ := Aside0.mk (Kd.R_elder' (by (with_reducible repeat (first | apply Kd.R_alloc | apply Kd.R_drewN | apply Kd.R_drew)); exact HO129.out) (Kd.R_base ho32) hb); have n2_ := Aside0.mk (Kd.R_lower (Kd.R_new' (Kd.R_new' ho32 (Kd.R_lt (by (with_reducible repeat (first | apply Kd.R_alloc | apply Kd.R_drewN | apply Kd.R_drew)); exact HO125.out))) (Kd.R_lt (by (with_reducible repeat (first | apply Kd.R_alloc | apply Kd.R_drewN | apply Kd.R_drew)); exact HO129.out))) (below_size (by repeat (first | (with_reducible first | exact HB.out | apply below_alloc | apply pw_below_drewN | apply below_drew1) | exact HB.out)))); have n3_ := Aside0.mk (below_step (by repeat (first | (with_reducible first | exact HB.out | apply below_alloc | apply pw_below_drewN | apply below_drew1) | exact HB.out)) hb); clear HO125; clear HO129; clear HB; have HO125 := n0_; have HO129 := n1_; have HO135 := n2_; have HB := n3_; clear n0_ n1_ n2_ n3_; clear hb ho32; obtain ⟨Ao33, co33, eo33⟩ := Kd.R_slice HO129.out; subst eo33; obtain ⟨Ao34, co34, eo34⟩ := Kd.R_slice HO135.out; subst eo34) | (go_at_call 12; (with_reducible refine (logbookref04_Texts.calls k _ _ t126 _ _ y133 true _ ?side1 ?side2 ?side3 ?side4 A4.out).mono ?_); (case side1 => repeat (first | exact (Kd.R_reads' HO129.out).2.2 | (with_reducible refine Kd.C_alloc ?_ _) | (with_reducible refine Kd.C_drewN ?_ _) | (with_reducible refine Kd.C_drew ?_))); (case side2 => exact (Kd.R_reads' HO129.out).2.1); (case side3 => repeat (first | exact (Kd.R_reads' HO135.out).2.2 | (with_reducible refine Kd.C_alloc ?_ _) | (with_reducible refine Kd.C_drewN ?_ _) | (with_reducible refine Kd.C_drew ?_))); (case side4 => exact (Kd.R_reads' HO135.out).2.1); rintro e w' ⟨rfl, ⟨nd, rfl⟩⟩))
        go_ret
        exact ⟨by first | rfl | (simp [errW_none, errW_some] <;> rfl) | (simp [*, errW_none, errW_some] <;> rfl), by repeat (first | (with_reducible first | exact HB.out | apply below_alloc | apply pw_below_drewN | apply below_drew1) | exact HB.out)⟩
    · replace c5 := Bool.eq_false_iff.mpr c5
      subst c5
      have H1 : (some false) = some r := by rw [if_neg (show ¬ (false = true) by decide)] at H; exact H
      clear H
      have H := H1
      clear H1
      obtain rfl := Option.some.inj H
      go_enter Try.func9, Try.ntmps9
      go_wp2_with (first | ((with_reducible refine gate_dst (N := 7) rfl ?_); (try (refine gate_guard (by rfl) ?_; dsimp only)); refine Kd.R_lit Kd.string _ 9 ?hg (N := 7) ?hd (xs := ([(⟨#[66, 61, 50]⟩ : ByteArray), (⟨#[65, 61, 49]⟩ : ByteArray), (⟨#[66, 61, 50]⟩ : ByteArray)] : List ByteArray)) (inner := [.string (⟨#[66, 61, 50]⟩ : ByteArray), .string (⟨#[65, 61, 49]⟩ : ByteArray), .string (⟨#[66, 61, 50]⟩ : ByteArray)]) (ok := fun _ => True) (okp := fun _ => True) ?hr ?hp (fun _ hk => hk) trivial (Below.refl _ _) (Nat.le_refl _) (by simp) ?_; (case hd => rfl); (case hg => rfl); (case hr => first | (go_simp; done) | (go_simp; rfl)); (case hp => exact (Reps.one (show Kd.M Kd.string _ _ _ (⟨#[66, 61, 50]⟩ : ByteArray) [.string (⟨#[66, 61, 50]⟩ : ByteArray)] from rfl) (Reps.one (show Kd.M Kd.string _ _ _ (⟨#[65, 61, 49]⟩ : ByteArray) [.string (⟨#[65, 61, 49]⟩ : ByteArray)] from rfl) (Reps.one (show Kd.M Kd.string _ _ _ (⟨#[66, 61, 50]⟩ : ByteArray) [.string (⟨#[66, 61, 50]⟩ : ByteArray)] from rfl) (Reps.none _ _))))); intro v124 w35 ho36 hb hg_ hnew_; clear hg_ hnew_; (first | rw [← Ny123.out] at ho36 | (simp only [Int.reduceToNat] at ho36; rw [← Ny123.out] at ho36)); have n0_ := Aside0.mk (Kd.R_lower ho36 (below_size (by repeat (first | (with_reducible first | exact HB.out | apply below_alloc | apply pw_below_drewN | apply below_drew1) | exact HB.out)))); have n1_ := Aside0.mk (below_step (by repeat (first | (with_reducible first | exact HB.out | apply below_alloc | apply pw_below_drewN | apply below_drew1) | exact HB.out)) hb); clear HB; have HO125 := n0_; have HB := n1_; clear n0_ n1_; clear hb ho36; obtain ⟨Ao37, co37, eo37⟩ := Kd.R_slice HO125.out; subst eo37) | ((with_reducible refine gate_callee (f := 10) rfl ?_); refine goesL_ (some 8) rfl rfl Try.func10 (by kernel_rfl) rfl #[.slice Ao37 y123.length co37] rfl (by (try simp only [List.map_toArray, List.map_cons, List.map_nil]); first | done | rfl | (simp only [List.length_drop, List.length_take]; rfl)) ?_; (with_reducible refine (item_Check.calls k _ _ y123 t126 t127 _ ?side1 ?side2 A1.out).mono ?_); (case side1 => repeat (first | exact (Kd.R_reads' HO125.out).2.2 | (with_reducible refine Kd.C_alloc ?_ _) | (with_reducible refine Kd.C_drewN ?_ _) | (with_reducible refine Kd.C_drew ?_))); (case side2 => exact (Kd.R_reads' HO125.out).2.1); rintro e w38 ⟨v128, rfl, ho0, hb⟩; refine ⟨_, rfl, ?_⟩; have n0_ := Aside0.mk (Kd.R_elder' (by (with_reducible repeat (first | apply Kd.R_alloc | apply Kd.R_drewN | apply Kd.R_drew)); exact HO125.out) (Kd.R_base ho0) hb); have n1_ := Aside0.mk (Kd.R_lower (Kd.R_new' ho0 (Kd.R_lt (by (with_reducible repeat (first | apply Kd.R_alloc | apply Kd.R_drewN | apply Kd.R_drew)); exact HO125.out))) (below_size (by repeat (first | (with_reducible first | exact HB.out | apply below_alloc | apply pw_below_drewN | apply below_drew1) | exact HB.out)))); have n2_ := Aside0.mk (below_step (by repeat (first | (with_reducible first | exact HB.out | apply below_alloc | apply pw_below_drewN | apply below_drew1) | exact HB.out)) hb); clear HO125; clear HB; have HO125 := n0_; have HO129 := n1_; have HB := n2_; clear n0_ n1_ n2_; (try clear hb); (try clear hb2); (try clear hk); (try clear hi); (try clear ho0)) | ((with_reducible refine gate_callee (f := 13) rfl ?_); refine goesL_ (some 12) rfl rfl Try.func13 (by kernel_rfl) rfl #[.string (⟨#[65, 61, 98, 61, 99]⟩ : ByteArray)] rfl (by (try simp only [List.map_toArray, List.map_cons, List.map_nil]); first | done | rfl | (simp only [List.length_drop, List.length_take]; rfl)) ?_; (with_reducible refine (item_Split.calls (⟨#[65, 61, 98, 61, 99]⟩ : ByteArray) t130 t131 t132 _ A2.out).mono ?_); rintro e w39 ⟨rfl, hb⟩; refine ⟨_, rfl, ?_⟩; have n0_ := Aside0.mk (Kd.R_below (by (with_reducible repeat (first | apply Kd.R_alloc | apply Kd.R_drewN | apply Kd.R_drew)); exact HO125.out) hb); have n1_ := Aside0.mk (Kd.R_below (by (with_reducible repeat (first | apply Kd.R_alloc | apply Kd.R_drewN | apply Kd.R_drew)); exact HO129.out) hb); have n2_ := Aside0.mk (below_step (by repeat (first | (with_reducible first | exact HB.out | apply below_alloc | apply pw_below_drewN | apply below_drew1) | exact HB.out)) hb); clear HO125; clear HO129; clear HB; have HO125 := n0_; have HO129 := n1_; have HB := n2_; clear n0_ n1_ n2_; (try clear hb); (try clear hb2); (try clear hk); (try clear hi)) | ((with_reducible refine gate_dst (N := 20) rfl ?_); (try (refine gate_guard (by rfl) ?_; dsimp only)); refine Kd.R_lit Kd.string _ 9 ?hg (N := 20) ?hd (xs := ([(⟨#[65, 61, 49]⟩ : ByteArray), (⟨#[66, 61, 50]⟩ : ByteArray)] : List ByteArray)) (inner := [.string (⟨#[65, 61, 49]⟩ : ByteArray), .string (⟨#[66, 61, 50]⟩ : ByteArray)]) (ok := fun _ => True) (okp := fun _ => True) ?hr ?hp (fun _ hk => hk) trivial (Below.refl _ _) (Nat.le_refl _) (by simp) ?_; (case hd => rfl); (case hg => rfl); (case hr => first | (go_simp; done) | (go_simp; rfl)); (case hp => exact (Reps.one (show Kd.M Kd.string _ _ _ (⟨#[65, 61, 49]⟩ : ByteArray) [.string (⟨#[65, 61, 49]⟩ : ByteArray)] from rfl) (Reps.one (show Kd.M Kd.string _ _ _ (⟨#[66, 61, 50]⟩ : ByteArray) [.string (⟨#[66, 61, 50]⟩ : ByteArray)] from rfl) (Reps.none _ _)))); intro v134 w40 ho41 hb hg_ hnew_; clear hg_ hnew_; (first | rw [← Ny133.out] at ho41 | (simp only [Int.reduceToNat] at ho41; rw [← Ny133.out] at ho41)); have n0_ := Aside0.mk (Kd.R_elder' (by (with_reducible repeat (first | apply Kd.R_alloc | apply Kd.R_drewN | apply Kd.R_drew)); exact HO125.out) (Kd.R_base ho41) hb); have n1_ := Aside0.mk (Kd.R_elder' (by (with_reducible repeat (first | apply Kd.R_alloc | apply Kd.R_drewN | apply Kd.R_drew)); exact HO129.out) (Kd.R_base ho41) hb); have n2_ := Aside0.mk (Kd.R_lower (Kd.R_new' (Kd.R_new' ho41 (Kd.R_lt (by (with_reducible repeat (first | apply Kd.R_alloc | apply Kd.R_drewN | apply Kd.R_drew)); exact HO125.out))) (Kd.R_lt (by (with_reducible repeat (first | apply Kd.R_alloc | apply Kd.R_drewN | apply Kd.R_drew)); exact HO129.out))) (below_size (by repeat (first | (with_reducible first | exact HB.out | apply below_alloc | apply pw_below_drewN | apply below_drew1) | exact HB.out)))); have n3_ := Aside0.mk (below_step (by repeat (first | (with_reducible first | exact HB.out | apply below_alloc | apply pw_below_drewN | apply below_drew1) | exact HB.out)) hb); clear HO125; clear HO129; clear HB; have HO125 := n0_; have HO129 := n1_; have HO135 := n2_; have HB := n3_; clear n0_ n1_ n2_ n3_; clear hb ho41; obtain ⟨Ao42, co42, eo42⟩ := Kd.R_slice HO129.out; subst eo42; obtain ⟨Ao43, co43, eo43⟩ := Kd.R_slice HO135.out; subst eo43) | (go_at_call 12; (with_reducible refine (logbookref04_Texts.calls k _ _ t126 _ _ y133 false _ ?side1 ?side2 ?side3 ?side4 A4.out).mono ?_); (case side1 => repeat (first | exact (Kd.R_reads' HO129.out).2.2 | (with_reducible refine Kd.C_alloc ?_ _) | (with_reducible refine Kd.C_drewN ?_ _) | (with_reducible refine Kd.C_drew ?_))); (case side2 => exact (Kd.R_reads' HO129.out).2.1); (case side3 => repeat (first | exact (Kd.R_reads' HO135.out).2.2 | (with_reducible refine Kd.C_alloc ?_ _) | (with_reducible refine Kd.C_drewN ?_ _) | (with_reducible refine Kd.C_drew ?_))); (case side4 => exact (Kd.R_reads' HO135.out).2.1); rintro e w' ⟨rfl, ⟨nd, rfl⟩⟩))
      go_ret
      exact ⟨by first | rfl | (simp [errW_none, errW_some] <;> rfl) | (simp [*, errW_none, errW_some] <;> rfl), by repeat (first | (with_reducible first | exact HB.out | apply below_alloc | apply pw_below_drewN | apply below_drew1) | exact HB.out)⟩
  · rw [if_neg c3] at H
    have c3b0 : (t127 == 0) = false := beq_eq_false_iff_ne.mpr c3
    have c3b1 : (t127 != 0) = true := bne_iff_ne.mpr c3
    obtain rfl := Option.some.inj H
    go_enter Try.func9, Try.ntmps9
    go_wp2_with (first | ((with_reducible refine gate_dst (N := 7) rfl ?_); (try (refine gate_guard (by rfl) ?_; dsimp only)); refine Kd.R_lit Kd.string _ 9 ?hg (N := 7) ?hd (xs := ([(⟨#[66, 61, 50]⟩ : ByteArray), (⟨#[65, 61, 49]⟩ : ByteArray), (⟨#[66, 61, 50]⟩ : ByteArray)] : List ByteArray)) (inner := [.string (⟨#[66, 61, 50]⟩ : ByteArray), .string (⟨#[65, 61, 49]⟩ : ByteArray), .string (⟨#[66, 61, 50]⟩ : ByteArray)]) (ok := fun _ => True) (okp := fun _ => True) ?hr ?hp (fun _ hk => hk) trivial (Below.refl _ _) (Nat.le_refl _) (by simp) ?_; (case hd => rfl); (case hg => rfl); (case hr => first | (go_simp; done) | (go_simp; rfl)); (case hp => exact (Reps.one (show Kd.M Kd.string _ _ _ (⟨#[66, 61, 50]⟩ : ByteArray) [.string (⟨#[66, 61, 50]⟩ : ByteArray)] from rfl) (Reps.one (show Kd.M Kd.string _ _ _ (⟨#[65, 61, 49]⟩ : ByteArray) [.string (⟨#[65, 61, 49]⟩ : ByteArray)] from rfl) (Reps.one (show Kd.M Kd.string _ _ _ (⟨#[66, 61, 50]⟩ : ByteArray) [.string (⟨#[66, 61, 50]⟩ : ByteArray)] from rfl) (Reps.none _ _))))); intro v124 w44 ho45 hb hg_ hnew_; clear hg_ hnew_; (first | rw [← Ny123.out] at ho45 | (simp only [Int.reduceToNat] at ho45; rw [← Ny123.out] at ho45)); have n0_ := Aside0.mk (Kd.R_lower ho45 (below_size (by repeat (first | (with_reducible first | exact HB.out | apply below_alloc | apply pw_below_drewN | apply below_drew1) | exact HB.out)))); have n1_ := Aside0.mk (below_step (by repeat (first | (with_reducible first | exact HB.out | apply below_alloc | apply pw_below_drewN | apply below_drew1) | exact HB.out)) hb); clear HB; have HO125 := n0_; have HB := n1_; clear n0_ n1_; clear hb ho45; obtain ⟨Ao46, co46, eo46⟩ := Kd.R_slice HO125.out; subst eo46) | ((with_reducible refine gate_callee (f := 10) rfl ?_); refine goesL_ (some 8) rfl rfl Try.func10 (by kernel_rfl) rfl #[.slice Ao46 y123.length co46] rfl (by (try simp only [List.map_toArray, List.map_cons, List.map_nil]); first | done | rfl | (simp only [List.length_drop, List.length_take]; rfl)) ?_; (with_reducible refine (item_Check.calls k _ _ y123 t126 t127 _ ?side1 ?side2 A1.out).mono ?_); (case side1 => repeat (first | exact (Kd.R_reads' HO125.out).2.2 | (with_reducible refine Kd.C_alloc ?_ _) | (with_reducible refine Kd.C_drewN ?_ _) | (with_reducible refine Kd.C_drew ?_))); (case side2 => exact (Kd.R_reads' HO125.out).2.1); rintro e w47 ⟨v128, rfl, ho0, hb⟩; refine ⟨_, rfl, ?_⟩; have n0_ := Aside0.mk (Kd.R_elder' (by (with_reducible repeat (first | apply Kd.R_alloc | apply Kd.R_drewN | apply Kd.R_drew)); exact HO125.out) (Kd.R_base ho0) hb); have n1_ := Aside0.mk (Kd.R_lower (Kd.R_new' ho0 (Kd.R_lt (by (with_reducible repeat (first | apply Kd.R_alloc | apply Kd.R_drewN | apply Kd.R_drew)); exact HO125.out))) (below_size (by repeat (first | (with_reducible first | exact HB.out | apply below_alloc | apply pw_below_drewN | apply below_drew1) | exact HB.out)))); have n2_ := Aside0.mk (below_step (by repeat (first | (with_reducible first | exact HB.out | apply below_alloc | apply pw_below_drewN | apply below_drew1) | exact HB.out)) hb); clear HO125; clear HB; have HO125 := n0_; have HO129 := n1_; have HB := n2_; clear n0_ n1_ n2_; (try clear hb); (try clear hb2); (try clear hk); (try clear hi); (try clear ho0)) | ((with_reducible refine gate_callee (f := 13) rfl ?_); refine goesL_ (some 12) rfl rfl Try.func13 (by kernel_rfl) rfl #[.string (⟨#[65, 61, 98, 61, 99]⟩ : ByteArray)] rfl (by (try simp only [List.map_toArray, List.map_cons, List.map_nil]); first | done | rfl | (simp only [List.length_drop, List.length_take]; rfl)) ?_; (with_reducible refine (item_Split.calls (⟨#[65, 61, 98, 61, 99]⟩ : ByteArray) t130 t131 t132 _ A2.out).mono ?_); rintro e w48 ⟨rfl, hb⟩; refine ⟨_, rfl, ?_⟩; have n0_ := Aside0.mk (Kd.R_below (by (with_reducible repeat (first | apply Kd.R_alloc | apply Kd.R_drewN | apply Kd.R_drew)); exact HO125.out) hb); have n1_ := Aside0.mk (Kd.R_below (by (with_reducible repeat (first | apply Kd.R_alloc | apply Kd.R_drewN | apply Kd.R_drew)); exact HO129.out) hb); have n2_ := Aside0.mk (below_step (by repeat (first | (with_reducible first | exact HB.out | apply below_alloc | apply pw_below_drewN | apply below_drew1) | exact HB.out)) hb); clear HO125; clear HO129; clear HB; have HO125 := n0_; have HO129 := n1_; have HB := n2_; clear n0_ n1_ n2_; (try clear hb); (try clear hb2); (try clear hk); (try clear hi)))
    go_ret
    exact ⟨by first | rfl | (simp [errW_none, errW_some] <;> rfl) | (simp [*, errW_none, errW_some] <;> rfl), by repeat (first | (with_reducible first | exact HB.out | apply below_alloc | apply pw_below_drewN | apply below_drew1) | exact HB.out)⟩

/-! ### item_Field: function 17 -/
def item_Field.f (a0 : ByteArray) : Option (ByteArray) := (item_Split.f a0).bind fun bt137 => (some bt137.1)
set_option maxHeartbeats 8000000 in
set_option maxRecDepth 100000 in
theorem item_Field.calls (a0 : ByteArray) (r : ByteArray) (w : World) (h : item_Field.f a0 = some r) :
    Calls Try.prog 17 #[.string a0] w fun e w' => e = .returned (.string r) ∧ Below w.heap.size w w' := by
  have HB := Aside0.mk (Below.refl w.heap.size w)
  have H : ((item_Split.f a0).bind fun bt137 => (some bt137.1)) = some r := h
  clear h
  replace H := Option.bind_eq_some_iff.mp H
  obtain ⟨⟨t137, t138, t139⟩, A20, H⟩ := H
  replace H : (some t137) = some r := H
  have A2 := Aside0.mk A20
  clear A20
  obtain rfl := Option.some.inj H
  go_enter Try.func17, Try.ntmps17
  go_wp2_with (first | ((with_reducible refine gate_callee (f := 13) rfl ?_); refine goesL_ (some 8) rfl rfl Try.func13 (by kernel_rfl) rfl #[.string a0] rfl (by (try simp only [List.map_toArray, List.map_cons, List.map_nil]); first | done | rfl | (simp only [List.length_drop, List.length_take]; rfl)) ?_; (with_reducible refine (item_Split.calls a0 t137 t138 t139 _ A2.out).mono ?_); rintro e w3 ⟨rfl, hb⟩; refine ⟨_, rfl, ?_⟩; have n0_ := Aside0.mk (below_step (by repeat (first | (with_reducible first | exact HB.out | apply below_alloc | apply pw_below_drewN | apply below_drew1) | exact HB.out)) hb); clear HB; have HB := n0_; clear n0_; (try clear hb); (try clear hb2); (try clear hk); (try clear hi)))
  go_ret
  exact ⟨by first | rfl | (simp [errW_none, errW_some] <;> rfl) | (simp [*, errW_none, errW_some] <;> rfl), by repeat (first | (with_reducible first | exact HB.out | apply below_alloc | apply pw_below_drewN | apply below_drew1) | exact HB.out)⟩

-- GIVEN rounds=0 making=1 shelf needs=logbook/item.Field,slices.Clone[[]string,string],slices.Compact[[]string,string]
/-! ### item.Sorted: by hand: slices.SortFunc with a closure -/
/-- Old blocks lie as they lay, and no fewer orders have been drawn. -/
structure Gro (w w' : World) : Prop where mk :: (below : Below w.heap.size w w') (drawn : w.drawn ≤ w'.drawn)
theorem Gro.refl (w : World) : Gro w w := ⟨Below.refl _ _, Nat.le_refl _⟩
theorem Gro.trans {a b c : World} (h : Gro a b) (k : Gro b c) : Gro a c := ⟨h.below.trans (k.below.mono h.below.size), Nat.le_trans h.drawn k.drawn⟩
theorem Gro.drawn0 {w w' : World} (h : Drawn0 w w') : Gro w w' := ⟨h.below, by obtain ⟨n, rfl⟩ := h; exact Nat.le_add_right _ _⟩
theorem Gro.alloc (w : World) (o : Obj) : Gro w (w.alloc o) := ⟨(Below.refl _ _).alloc (Nat.le_refl _) _, Nat.le_refl _⟩
theorem Gro.bytes (w : World) (e : TypeId) (s : ByteArray) : Gro w (Lib.bytesWorld w e s) := ⟨below_bytes w e s, Nat.le_succ _⟩
theorem Gro.grow {w w' : World} (h : Gro w w') : ∃ q os, w' = Go.Sort.grow (w.drewN q) os := by
  obtain ⟨⟨h1, h2, h3, h4, h5⟩, h6⟩ := h
  refine ⟨w'.drawn - w.drawn, w'.heap.extract w.heap.size w'.heap.size, ?_⟩
  have hh : w'.heap = w.heap ++ w'.heap.extract w.heap.size w'.heap.size := by
    apply Array.ext_getElem?
    intro i
    rcases Nat.lt_or_ge i w.heap.size with hi | hi
    · rw [Array.getElem?_append_left hi]
      exact h5 i hi
    · rw [Array.getElem?_append_right hi, Array.getElem?_extract]
      rcases Nat.lt_or_ge i w'.heap.size with hj | hj
      · rw [if_pos (by omega), show w.heap.size + (i - w.heap.size) = i by omega]
      · rw [if_neg (by omega), Array.getElem?_eq_none hj]
  have hd : w'.drawn = w.drawn + (w'.drawn - w.drawn) := by omega
  cases w with
  | mk heap tape drawn os output =>
    cases w' with
    | mk heap' tape' drawn' os' output' =>
      simp only at h1 h2 h3 hh hd
      subst h1 h2 h3
      show World.mk heap' _ drawn' _ _ = World.mk (heap ++ heap'.extract heap.size heap'.size) _ (drawn + (drawn' - drawn)) _ _
      rw [← hh, ← hd]
      rfl
set_option maxHeartbeats 1600000 in
theorem item_Name.grows (a0 : ByteArray) (r : Bool) (w : World) (h : item_Name.f a0 = some r) :
    Calls Try.prog 15 #[.string a0] w fun e w' => e = .returned (.bool r) ∧ Gro w w' := by
  unfold item_Name.f at h
  have kc := fun (w : World) => Lib.run_convert_string_bytes (P := Try.prog) w 9 42 5 a0 Try.underlying9 Try.underlying42 Try.underlying5
  by_cases hz : a0.size = 0
  · rw [if_pos hz] at h
    obtain rfl := Option.some.inj h
    have e1 := toList_nil hz
    clear hz h
    go_enter Try.func15, Try.ntmps15
    go_wp2
    go_ret
    exact ⟨rfl, Gro.refl _⟩
  rw [if_neg hz] at h
  obtain ⟨e1, e2⟩ := toList_ne hz
  by_cases h64 : a0.size > 64
  · rw [if_pos h64] at h
    obtain rfl := Option.some.inj h
    have e3 : 64 < (a0.size : Int) := by omega
    clear hz h
    go_enter Try.func15, Try.ntmps15
    go_wp2
    go_ret
    exact ⟨rfl, Gro.refl _⟩
  rw [if_neg h64] at h
  have e3 : (a0.size : Int) ≤ 64 := by omega
  have e4 : 0 < a0.size := by omega
  have e5 := bt0 e4
  rw [e5] at h
  clear e5 hz
  by_cases hd : (48 : Int) ≤ ((a0[0]'e4).toNat : Int) ∧ ((a0[0]'e4).toNat : Int) ≤ (57 : Int)
  · rw [if_pos hd] at h
    obtain rfl := Option.some.inj h
    obtain ⟨d1, d2⟩ := hd
    clear h
    go_enter Try.func15, Try.ntmps15
    go_wp2
    go_ret
    exact ⟨rfl, Gro.refl _⟩
  rw [if_neg hd] at h
  have hr : Hid ((bytesOf a0).all nameB = r) := Lib.hid (Option.some.inj h)
  clear h
  have hd' : ((a0[0]'e4).toNat : Int) < (48 : Int) ∨ (57 : Int) < ((a0[0]'e4).toNat : Int) := by omega
  clear hd
  have hB := Gro.bytes w 5 a0
  have HC : Hid (∀ k, k < a0.size → (Lib.bytesWorld w 5 a0).cell? ⟨w.heap.size, k, none⟩ = some (.int .u8 (a0.data.toList.getD k 0).toNat)) := Lib.hid (fun k hk => Lib.bytesWorld_cell w 5 a0 k hk)
  rcases hd' with d1 | d1
  all_goals
    go_enter Try.func15, Try.ntmps15
    go_wp2
    go_loop [25, 4] (fun i c => ∃ k : Nat, k ≤ a0.size ∧ i = .int .i64 k ∧ Hid (((bytesOf a0).take k).all nameB = true)) (fun i _ => a0.size - (intOf i).toNat)
    case atStart => exact ⟨0, Nat.zero_le _, rfl, Lib.hid rfl⟩
    case round =>
      obtain ⟨k, hk, rfl, ha⟩ := hrel
      by_cases hlt : k < a0.size
      · have hc := HC.out k hlt
        have hb := byte_range a0 k
        generalize hg : ((a0.data.toList.getD k 0).toNat : Int) = c at hc hb
        have HG := Lib.hid hg
        clear hg
        go_wp2
        all_goals (try simp only [bne_iff_ne, ne_eq, bne_eq_false_iff_eq] at *)
        all_goals first
          | (go_round
             case rel => exact ⟨k + 1, by omega, by go_num, Lib.hid (take_succ_all a0 k hlt ha.out (by rw [HG.out]; first | exact nameB_yes (by omega) | exact nameB_no (by omega)))⟩
             case measure => simp [intOf]; omega)
          | (go_ret
             exact ⟨ret_bool (by rw [← hr.out]; exact (all_false a0 k hlt (by rw [HG.out]; first | exact nameB_yes (by omega) | exact nameB_no (by omega))).symm), hB⟩)
      · go_wp2
        go_ret
        exact ⟨ret_bool (by rw [← hr.out]; exact (all_done a0 k hlt ha.out).symm), hB⟩
set_option maxHeartbeats 1600000 in
theorem item_Split.grows (a0 : ByteArray) (r1 : ByteArray) (r2 : ByteArray) (r3 : Bool) (w : World) (h : item_Split.f a0 = some (r1, r2, r3)) :
    Calls Try.prog 13 #[.string a0] w fun e w' => e = .returned (.tuple #[.string r1, .string r2, .bool r3]) ∧ Gro w w' := by
  unfold item_Split.f at h
  obtain ⟨⟨t1, t2, t3⟩, h1, h2⟩ := Option.bind_eq_some_iff.1 h
  clear h
  have H1 := Lib.hid (fun W => strings_Cut.calls a0 (⟨#[61]⟩ : ByteArray) t1 t2 t3 W h1)
  simp only at h2
  cases t3 with
  | false =>
    rw [if_neg (by decide)] at h2
    simp only [Option.some.injEq, Prod.mk.injEq] at h2
    obtain ⟨rfl, rfl, rfl⟩ := h2
    go_enter Try.func13, Try.ntmps13
    go_wp2_with (first
      | (go_at_call 31; (with_reducible refine (H1.out _).mono ?_); rintro e w2 ⟨rfl, hd⟩; have HG := Gro.drawn0 hd; clear hd))
    go_ret3
    exact ⟨rfl, HG⟩
  | true =>
    rw [if_pos rfl] at h2
    obtain ⟨t4, h3, h4⟩ := Option.bind_eq_some_iff.1 h2
    clear h2
    have H3 := Lib.hid (fun W => item_Name.grows t1 t4 W h3)
    cases t4 with
    | false =>
      rw [if_neg (by decide)] at h4
      simp only [Option.some.injEq, Prod.mk.injEq] at h4
      obtain ⟨rfl, rfl, rfl⟩ := h4
      go_enter Try.func13, Try.ntmps13
      go_wp2_with (first
        | (go_at_call 31; (with_reducible refine (H1.out _).mono ?_); rintro e w2 ⟨rfl, hd⟩; have HG := Gro.drawn0 hd; clear hd)
        | (go_at_call 15; (with_reducible refine (H3.out _).mono ?_); rintro e w3 ⟨rfl, hd⟩; have HG2 := HG.trans hd; clear hd HG))
      go_ret3
      exact ⟨rfl, HG2⟩
    | true =>
      rw [if_pos rfl] at h4
      simp only [Option.some.injEq, Prod.mk.injEq] at h4
      obtain ⟨rfl, rfl, rfl⟩ := h4
      go_enter Try.func13, Try.ntmps13
      go_wp2_with (first
        | (go_at_call 31; (with_reducible refine (H1.out _).mono ?_); rintro e w2 ⟨rfl, hd⟩; have HG := Gro.drawn0 hd; clear hd)
        | (go_at_call 15; (with_reducible refine (H3.out _).mono ?_); rintro e w3 ⟨rfl, hd⟩; have HG2 := HG.trans hd; clear hd HG))
      go_ret3
      exact ⟨rfl, HG2⟩
theorem item_Field.grows (a0 : ByteArray) (r : ByteArray) (w : World) (h : item_Field.f a0 = some r) :
    Calls Try.prog 17 #[.string a0] w fun e w' => e = .returned (.string r) ∧ Gro w w' := by
  unfold item_Field.f at h
  obtain ⟨⟨t1, t2, t3⟩, h1, h2⟩ := Option.bind_eq_some_iff.1 h
  clear h
  obtain rfl : t1 = r := Option.some.inj h2
  have H1 := Lib.hid (fun W => item_Split.grows a0 t1 t2 t3 W h1)
  clear h1 h2
  go_enter Try.func17, Try.ntmps17
  go_wp2_with (first
    | (go_at_call 13; (with_reducible refine (H1.out _).mono ?_); rintro e w2 ⟨rfl, hd⟩; have HG := Lib.hid hd; clear hd))
  go_ret
  exact ⟨rfl, HG.out⟩
def orI (x y : Int) : Int := if x ≠ 0 then x else y
theorem cmp_Or.calls (x y : Int) (g c : Nat) (w : World) (h0 : w.cell? ⟨g, 0, none⟩ = some (.int .i64 x)) (h1 : w.cell? ⟨g, 1, none⟩ = some (.int .i64 y)) :
    Calls Try.prog 35 #[.slice (some ⟨g, 0, none⟩) 2 c] w fun e w' => e = .returned (.int .i64 (orI x y)) ∧ w' = w := by
  unfold orI
  by_cases hx : x = 0
  · subst hx
    rw [if_neg (by decide)]
    by_cases hy : y = 0
    · subst hy
      go_enter Try.func35, Try.ntmps35
      go_wp2
      refine wp_loop_rounds 3 ?_
      repeat any_goals (rw [rounds_succ]; go_wp2)
      go_ret
      exact ⟨rfl, rfl⟩
    · have hyb : (y != 0) = true := bne_iff_ne.2 hy
      go_enter Try.func35, Try.ntmps35
      go_wp2
      refine wp_loop_rounds 2 ?_
      repeat any_goals (rw [rounds_succ]; go_wp2)
      go_ret
      exact ⟨rfl, rfl⟩
  · rw [if_pos hx]
    have hxb : (x != 0) = true := bne_iff_ne.2 hx
    go_enter Try.func35, Try.ntmps35
    go_wp2
    refine wp_loop_rounds 1 ?_
    repeat any_goals (rw [rounds_succ]; go_wp2)
    go_ret
    exact ⟨rfl, rfl⟩
def cmpS (a b : ByteArray) : Int := Lib.compareBytes a.data.toList b.data.toList
def fieldV (x : ByteArray) : ByteArray := (item_Field.f x).getD ByteArray.empty
def cmpF (a b : ByteArray) : Int := orI (cmpS (fieldV a) (fieldV b)) (cmpS a b)
theorem sorted_closure (a b fa fb : ByteArray) (w : World) (ha : item_Field.f a = some fa) (hb : item_Field.f b = some fb) :
    Calls Try.prog 34 #[.string a, .string b] w fun e w' => e = .returned (.int .i64 (orI (cmpS fa fb) (cmpS a b))) ∧ Gro w w' := by
  have HA := Lib.hid (fun W => item_Field.grows a fa W ha)
  have HB := Lib.hid (fun W => item_Field.grows b fb W hb)
  clear ha hb
  have HC1 := Lib.hid (fun W => Try.strings_Compare fa fb W)
  have HC2 := Lib.hid (fun W => Try.strings_Compare a b W)
  obtain ⟨x, hx⟩ : ∃ x, Lib.compareBytes fa.data.toList fb.data.toList = x := ⟨_, rfl⟩
  obtain ⟨y, hy⟩ : ∃ y, Lib.compareBytes a.data.toList b.data.toList = y := ⟨_, rfl⟩
  unfold cmpS
  rw [hx] at HC1
  rw [hy] at HC2
  rw [hx, hy]
  clear hx hy
  go_enter Try.func34, Try.ntmps34
  go_wp2_with (first
    | (go_at_call 17; (with_reducible refine (HA.out _).mono ?_); rintro e w2 ⟨rfl, hd⟩; have HG := Lib.hid hd; clear hd HA)
    | (go_at_call 17; (with_reducible refine (HB.out _).mono ?_); rintro e w3 ⟨rfl, hd⟩; have HG2 := Lib.hid (HG.out.trans hd); clear hd HB)
    | (go_at_call 36; (with_reducible refine (HC1.out _).mono ?_); rintro e w4 ⟨rfl, rfl⟩; clear HC1)
    | (go_at_call 36; (with_reducible refine (HC2.out _).mono ?_); rintro e w5 ⟨rfl, rfl⟩; clear HC2)
    | (go_at_call 35; refine (cmp_Or.calls x y _ _ _ (by go_simp) (by go_simp)).mono ?_; rintro e w6 ⟨rfl, rfl⟩))
  go_ret
  exact ⟨rfl, HG2.out.trans (Gro.alloc _ _)⟩
/-! ### the order -/
theorem cmp_lt : ∀ x y : List UInt8, Lib.compareBytes x y < 0 ↔ x < y
  | [], [] => by simp [Lib.compareBytes]
  | [], _ :: _ => by simp [Lib.compareBytes]
  | _ :: _, [] => by simp [Lib.compareBytes]
  | a :: x, b :: y => by
    rw [Lib.compareBytes, List.cons_lt_cons_iff]
    by_cases h1 : a < b
    · rw [if_pos h1]
      simp [h1]
    · rw [if_neg h1]
      by_cases h2 : b < a
      · rw [if_pos h2]
        have h3 : a ≠ b := fun e => by rw [e] at h2; exact UInt8.lt_irrefl b h2
        simp [h1, h3]
      · rw [if_neg h2, cmp_lt x y]
        have h3 : a = b := UInt8.le_antisymm (UInt8.not_lt.1 h2) (UInt8.not_lt.1 h1)
        simp [h3]
theorem cmp_eq0 : ∀ x y : List UInt8, Lib.compareBytes x y = 0 ↔ x = y
  | [], [] => by simp [Lib.compareBytes]
  | [], _ :: _ => by simp [Lib.compareBytes]
  | _ :: _, [] => by simp [Lib.compareBytes]
  | a :: x, b :: y => by
    rw [Lib.compareBytes]
    by_cases h1 : a < b
    · rw [if_pos h1]
      have h3 : a ≠ b := fun e => by rw [e] at h1; exact UInt8.lt_irrefl b h1
      simp [h3]
    · rw [if_neg h1]
      by_cases h2 : b < a
      · rw [if_pos h2]
        have h3 : a ≠ b := fun e => by rw [e] at h2; exact UInt8.lt_irrefl b h2
        simp [h3]
      · rw [if_neg h2, cmp_eq0 x y]
        have h3 : a = b := UInt8.le_antisymm (UInt8.not_lt.1 h2) (UInt8.not_lt.1 h1)
        simp [h3]
/-- By the field, then by the text. -/
def ltF (a b : ByteArray) : Prop := (fieldV a).data.toList < (fieldV b).data.toList ∨ ((fieldV a).data.toList = (fieldV b).data.toList ∧ a.data.toList < b.data.toList)
theorem cmpF_lt (a b : ByteArray) : cmpF a b < 0 ↔ ltF a b := by
  unfold cmpF orI ltF cmpS
  by_cases h : Lib.compareBytes (fieldV a).data.toList (fieldV b).data.toList = 0
  · rw [if_neg (by simpa using h), cmp_lt]
    have he := (cmp_eq0 _ _).1 h
    rw [he]
    constructor
    · exact fun h => .inr ⟨rfl, h⟩
    · rintro (h | h)
      · exact absurd h (List.lt_irrefl _)
      · exact h.2
  · rw [if_pos h, cmp_lt]
    constructor
    · exact .inl
    · rintro (h2 | h2)
      · exact h2
      · exact absurd ((cmp_eq0 _ _).2 h2.1) h
theorem ltF_trans {a b c : ByteArray} (h : ltF a b) (k : ltF b c) : ltF a c := by
  unfold ltF at *
  rcases h with h | ⟨h1, h2⟩
  · rcases k with k | ⟨k1, k2⟩
    · exact .inl (List.lt_trans h k)
    · rw [k1] at h
      exact .inl h
  · rcases k with k | ⟨k1, k2⟩
    · rw [h1]
      exact .inl k
    · exact .inr ⟨h1.trans k1, List.lt_trans h2 k2⟩
theorem ltF_irrefl (a : ByteArray) : ¬ ltF a a := by
  rintro (h | ⟨_, h⟩)
  · exact List.lt_irrefl _ h
  · exact List.lt_irrefl _ h
theorem ltF_total {a b : ByteArray} (h : ¬ ltF a b) (k : ¬ ltF b a) : a = b := by
  unfold ltF at *
  have e1 : (fieldV a).data.toList = (fieldV b).data.toList := List.le_antisymm (List.not_lt.1 fun e => k (.inl e)) (List.not_lt.1 fun e => h (.inl e))
  have e2 : a.data.toList = b.data.toList := List.le_antisymm (List.not_lt.1 fun e => k (.inr ⟨e1.symm, e⟩)) (List.not_lt.1 fun e => h (.inr ⟨e1, e⟩))
  cases a
  cases b
  exact congrArg ByteArray.mk (Array.toList_inj.1 e2)
theorem ltF_ntrans {a b c : ByteArray} (h : ¬ ltF a b) (k : ¬ ltF b c) : ¬ ltF a c := fun e => by
  by_cases h2 : ltF b a
  · exact k (ltF_trans h2 e)
  · rw [ltF_total h h2] at e
    exact k e
abbrev FTx := {s : ByteArray // (item_Field.f s).isSome = true}
instance : Inhabited FTx := ⟨⟨⟨#[]⟩, by decide +kernel⟩⟩
def encF (s : FTx) : Value := .string s.1
def cmpT (x y : FTx) : Int := cmpF x.1 y.1
theorem ltOf_iff (x y : FTx) : Go.Proofs.ltOf cmpT x y = true ↔ ltF x.1 y.1 := by
  unfold Go.Proofs.ltOf cmpT
  rw [decide_eq_true_iff]
  exact cmpF_lt _ _
theorem ltOf_no (x y : FTx) : Go.Proofs.ltOf cmpT x y = false ↔ ¬ ltF x.1 y.1 := by
  rw [← ltOf_iff]
  simp
theorem swoT : Go.Sort.SWO (Go.Proofs.ltOf cmpT) where
  irrefl x := (ltOf_no x x).2 (ltF_irrefl _)
  trans x y z h k := (ltOf_iff x z).2 (ltF_trans ((ltOf_iff x y).1 h) ((ltOf_iff y z).1 k))
  ntrans x y z h k := (ltOf_no x z).2 (ltF_ntrans ((ltOf_no x y).1 h) ((ltOf_no y z).1 k))
theorem totT (x y : FTx) (h : Go.Proofs.ltOf cmpT x y = false) (k : Go.Proofs.ltOf cmpT y x = false) : x = y := Subtype.ext (ltF_total ((ltOf_no x y).1 h) ((ltOf_no y x).1 k))
/-! ### slices.SortFunc -/
theorem putCells_map {α β : Type} [Inhabited α] [Inhabited β] (e1 : α → Value) (e2 : β → Value) (g : α → β) (he : ∀ x, e2 (g x) = e1 x) (off : Nat) (d : Array α) (c : Array Value) : Go.Sort.putCells e1 off d c = Go.Sort.putCells e2 off (d.map g) c := by
  unfold Go.Sort.putCells
  congr 1
  funext k x
  rw [Array.size_map]
  by_cases h : off ≤ k ∧ k < off + d.size
  · rw [if_pos h, if_pos h]
    have h2 : k - off < d.size := by omega
    rw [getElem!_pos d (k - off) h2, getElem!_pos (d.map g) (k - off) (by rw [Array.size_map]; exact h2), Array.getElem_map, he]
  · rw [if_neg h, if_neg h]
theorem putRow_map {α β : Type} [Inhabited α] [Inhabited β] (e1 : α → Value) (e2 : β → Value) (g : α → β) (he : ∀ x, e2 (g x) = e1 x) (w : World) (blk off : Nat) (d : Array α) : Go.Sort.putRow e1 w blk off d = Go.Sort.putRow e2 w blk off (d.map g) := by
  unfold Go.Sort.putRow
  congr 1
  funext c
  exact putCells_map e1 e2 g he off d c
def liftF (l : List ByteArray) : List FTx := l.filterMap fun x => if h : (item_Field.f x).isSome = true then some ⟨x, h⟩ else none
theorem liftF_val : ∀ l : List ByteArray, (∀ x ∈ l, (item_Field.f x).isSome = true) → (liftF l).map (fun x : FTx => x.1) = l
  | [], _ => rfl
  | x :: r, h => by
    have ih := liftF_val r (fun y hy => h y (List.mem_cons_of_mem _ hy))
    have hx := h x (by simp)
    have e : liftF (x :: r) = ⟨x, hx⟩ :: liftF r := by
      unfold liftF
      rw [List.filterMap_cons, dif_pos hx]
    rw [e, List.map_cons, ih]
def srtF (l : List ByteArray) : List ByteArray := ((liftF l).mergeSort fun x y => !(Go.Proofs.ltOf cmpT) y x).map (fun x : FTx => x.1)
theorem liftF_len (l : List ByteArray) (h : ∀ x ∈ l, (item_Field.f x).isSome = true) : (liftF l).length = l.length := by
  have := congrArg List.length (liftF_val l h)
  rwa [List.length_map] at this
theorem srtF_len (l : List ByteArray) (h : ∀ x ∈ l, (item_Field.f x).isSome = true) : (srtF l).length = l.length := by
  unfold srtF
  rw [List.length_map, List.length_mergeSort, liftF_len l h]
theorem sfunc_below {w0 w w' : World} {g : Nat} (hB : Below w0.heap.size w0 w) (h : w.grownBy w' (some g)) (hg : w0.heap.size ≤ g) : Below w0.heap.size w0 w' :=
  pw_below_grown hB (some g) hB.size h (fun k e => by injection e with e; omega)
theorem slices_SortFunc_own (P0_ : Nat → Prop) (u : Value) (l0 : List ByteArray) (w0 w : World) (hB : Below w0.heap.size w0 w) (ho0 : Kd.R Kd.string 9 w w0.heap.size P0_ u l0) (hF : ∀ x ∈ l0, (item_Field.f x).isSome = true) (hz : l0.length < 4611686018427387904) :
    Calls Try.prog 33 #[u, .func (.func 34) #[] #[]] w fun e w' => e = .returned (.tuple #[]) ∧ Kd.R Kd.string 9 w' w0.heap.size (fun k_ => (P0_ k_ ∨ w.heap.size ≤ k_)) u (srtF l0) ∧ Below w0.heap.size w0 w' := by
  have ho := Kd.own_of_R ho0
  rcases ho.2 with ⟨rfl, hn⟩ | ⟨g, cap, cur, rfl, hbase, hb, h1, h2, h3, h4⟩
  · obtain rfl := List.eq_nil_of_length_eq_zero hn
    refine (Try.slices_SortFunc_text_none none 0 _ w).mono ?_
    rintro e w' ⟨rfl, rfl⟩
    refine ⟨rfl, ?_, hB⟩
    have e : srtF [] = [] := by simp [srtF, liftF]
    rw [e]
    exact Kd.R_nil _ _ _ _ _
  · have hlt : g < w.heap.size := (Array.getElem?_eq_some_iff.1 hb).1
    have hHs : Go.Sort.Holds encStr w g 0 (l0.map (·.data.toList)).toArray := holds_of_block hb (by rw [List.length_map, Lib.map_encStr]; simpa [encs] using h4)
    have hd : (liftF l0).toArray.map (fun x : FTx => x.1.data.toList) = (l0.map (·.data.toList)).toArray := by
      rw [List.map_toArray]
      congr 1
      conv => rhs; rw [← liftF_val l0 hF]
      rw [List.map_map]
      rfl
    have hsz : (liftF l0).toArray.size = l0.length := by rw [List.size_toArray, liftF_len l0 hF]
    have hH : Go.Sort.Holds encF w g 0 (liftF l0).toArray := by
      intro j hj
      have hk := hHs j (by rw [← hd, Array.size_map]; exact hj)
      refine ⟨?_, hk.2⟩
      rw [hk.1, ← hd, getElem!_pos (liftF l0).toArray j hj, getElem!_pos ((liftF l0).toArray.map fun x : FTx => x.1.data.toList) j (by rw [Array.size_map]; exact hj), Array.getElem_map]
      rfl
    have key := Try.slices_SortFunc_text encF (fun _ => rfl) cmpT swoT totT 34 #[] g 0 cap (liftF l0).toArray w (enters_of Try.func34 (by kernel_rfl) rfl) (fun m os dk hs x y => by
      obtain ⟨fx, hx⟩ := Option.isSome_iff_exists.1 x.2
      obtain ⟨fy, hy⟩ := Option.isSome_iff_exists.1 y.2
      refine (sorted_closure x.1 y.1 fx fy _ hx hy).mono (fun e w' hq => ⟨?_, hq.2.grow⟩)
      rw [hq.1]
      unfold cmpT cmpF fieldV
      rw [hx, hy]
      rfl) hH hlt (by rw [hsz]; exact hz)
    rw [hsz] at key
    refine key.mono ?_
    rintro e w' ⟨rfl, n, os, rfl⟩
    have ew : Go.Proofs.sortWorld encF w g 0 n ((liftF l0).toArray.toList.mergeSort fun x y => !(Go.Proofs.ltOf cmpT) y x).toArray os = Go.Sort.grow (Go.Sort.putRow encStr (Go.Sort.ahead w n) g 0 ((srtF l0).map (·.data.toList)).toArray) os := by
      unfold Go.Proofs.sortWorld
      rw [putRow_map encF encStr (fun x : FTx => x.1.data.toList) (fun x => rfl), List.map_toArray]
      unfold srtF
      rw [List.map_map]
      rfl
    rw [ew]
    have hg := grownBy_sorted (w := w) (g := g) (n := n) (os := os) ((srtF l0).map (·.data.toList)).toArray
    have hown := ownsRow_sorted (w := w) (n := n) (os := os) (ss := l0.map (·.data.toList)) (ts := (srtF l0).map (·.data.toList)) (by rw [List.length_map, List.length_map, srtF_len l0 hF]) hbase hb (by rw [List.length_map]; exact h1) h2 h3
    rw [List.length_map] at hown
    refine ⟨rfl, Kd.R_of_own ?_ ?_, sfunc_below hB hg hbase⟩
    · have e2 : encs Value.string (srtF l0) = ((srtF l0).map (·.data.toList)).map encStr := by
        unfold encs
        rw [List.map_map]
        rfl
      rw [e2, srtF_len l0 hF]
      exact hown
    · intro k hk
      exact .inl (ho0.1 k hk)
/-! ### item.Sorted -/
def item_Sorted.f (l0 : List ByteArray) : Option (List ByteArray) := if l0.length * 16 ≤ 140737488355328 ∧ ∀ x ∈ l0, (item_Field.f x).isSome = true then some (compB (srtF l0)) else none
set_option maxHeartbeats 1600000 in
theorem item_Sorted.calls (A0 : Option Addr) (c0 : Nat) (l0 : List ByteArray) (r : List ByteArray) (w : World) (hr0 : Kd.C Kd.string w A0 l0.length l0) (hc0 : l0.length ≤ c0) (h : item_Sorted.f l0 = some r) :
    Calls Try.prog 25 #[.slice A0 l0.length c0] w fun e w' => ∃ v0_ : Value, e = .returned (v0_) ∧ Kd.R Kd.string 9 w' w.heap.size (fun _ => True) v0_ r ∧ Below w.heap.size w w' := by
  unfold item_Sorted.f at h
  by_cases hz : l0.length * 16 ≤ 140737488355328 ∧ ∀ x ∈ l0, (item_Field.f x).isSome = true
  case neg => rw [if_neg hz] at h; cases h
  rw [if_pos hz] at h
  obtain rfl := Option.some.inj h
  have HC := Lib.hid (slices_Clone_string_string.calls A0 c0 l0 l0 w hr0 hc0 (by unfold slices_Clone_string_string.f; rw [if_pos hz.1]))
  have HF := Lib.hid hz.2
  have hzl : l0.length < 4611686018427387904 := by omega
  clear h hz hr0 hc0
  go_enter Try.func25, Try.ntmps25
  go_wp2_with (first
    | (go_at_call 27; (with_reducible refine HC.out.mono ?_); rintro e w2 ⟨v, rfl, hR, hB⟩; have HR := Lib.hid hR; have HB := Lib.hid hB; clear hR hB)
    | (go_at_call 33; refine (slices_SortFunc_own _ _ l0 w _ HB.out HR.out HF.out hzl).mono ?_; rintro e w3 ⟨rfl, hR, hB⟩; have HR3 := Lib.hid hR; have HB3 := Lib.hid hB; clear hR hB)
    | (go_at_call 29; refine (slices_Compact_string_string.calls _ _ (srtF l0) (compB (srtF l0)) w _ HB3.out HR3.out rfl).mono ?_; rintro e w4 ⟨v4, rfl, hR, hB, _⟩; have HR4 := Lib.hid hR; have HB4 := Lib.hid hB; clear hR hB))
  go_ret
  exact ⟨_, rfl, Kd.R_mono HR4.out (fun _ _ => trivial), HB4.out⟩

end Go.Proofs.Ytnjimfdgdefenaa.PItemSorts
