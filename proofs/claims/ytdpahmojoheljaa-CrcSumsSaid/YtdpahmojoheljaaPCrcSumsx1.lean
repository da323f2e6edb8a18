-- LAID BY gprint.py: a scratch copy of the print, with functions that this session proved by hand among the printed ones
import Derived.Test.YtdpahmojoheljaaPCrcSumsx0
namespace Go.Proofs.Ytdpahmojoheljaa.PCrcSums
open Go.RowKit Go.Proofs.YtdpahmojoheljaaW.PrintWords Go.Proofs.YtdpahmojoheljaaW.PrintLast Go.Proofs.Ytdpahmojoheljaa.Conv Go.Proofs.YtdpahmojoheljaaW.PrintMore
attribute [local go_sem] max2_int min2_int max_two min_two max_three min_three max_four min_four gtr_less   -- for this text's walks alone
set_option linter.unusedVariables false
set_option linter.unusedSimpArgs false

/-! ### logbookref03_bit: function 12 -/
def logbookref03_bit.f (a0 : Int) : Option (Int) := if (Int.tmod a0 2) = 1 then (some (Go.bits .xor .u32 ((Int.tdiv a0 2) % 4294967296) 3988292384)) else (some ((Int.tdiv a0 2) % 4294967296))
set_option maxHeartbeats 8000000 in
set_option maxRecDepth 100000 in
theorem logbookref03_bit.calls (a0 : Int) (r : Int) (w : World) (h : logbookref03_bit.f a0 = some r) :
    Calls Try.prog 12 #[.int .u32 a0] w fun e w' => e = .returned (.int .u32 r) ∧ Drawn0 w w' := by
  have H : (if (Int.tmod a0 2) = 1 then (some (Go.bits .xor .u32 ((Int.tdiv a0 2) % 4294967296) 3988292384)) else (some ((Int.tdiv a0 2) % 4294967296))) = some r := h
  clear h
  by_cases c2 : (Int.tmod a0 2) = 1
  · rw [if_pos c2] at H
    have c2b0 : ((Int.tmod a0 2) == 1) = true := beq_iff_eq.mpr c2
    have c2b1 : ((Int.tmod a0 2) != 1) = false := bne_eq_false_iff_eq.mpr c2
    clear c2
    obtain rfl := Option.some.inj H
    go_enter Try.func12, Try.ntmps12
    go_wp2
    go_ret
    exact ⟨by first | rfl | (simp; done) | (simp [*]; done) | exact isEmpty_bne _, by repeat (first | exact Drawn0.refl _ | apply Drawn0.step)⟩
  · rw [if_neg c2] at H
    have c2b0 : ((Int.tmod a0 2) == 1) = false := beq_eq_false_iff_ne.mpr c2
    have c2b1 : ((Int.tmod a0 2) != 1) = true := bne_iff_ne.mpr c2
    obtain rfl := Option.some.inj H
    go_enter Try.func12, Try.ntmps12
    go_wp2
    go_ret
    exact ⟨by first | rfl | (simp; done) | (simp [*]; done) | exact isEmpty_bne _, by repeat (first | exact Drawn0.refl _ | apply Drawn0.step)⟩

/-! ### logbookref03_Add: function 10 -/
mutual
def logbookref03_Add.l0 : Nat → List Int → Int → Int → Option (Int)
  | 0, _, _, _ => none
  | k + 1, x1, x5, x6 => if x6 < (x1.length : Int) then (if 0 ≤ x6 then (logbookref03_Add.l1 k x1 (Go.bits .xor .u32 x5 ((rd x1 x6) % 4294967296)) x6 0) else (none)) else (some (Go.bits .xor .u32 x5 4294967295))
def logbookref03_Add.l1 : Nat → List Int → Int → Int → Int → Option (Int)
  | 0, _, _, _, _ => none
  | k + 1, x1, x5, x6, x7 => if x7 < 8 then ((logbookref03_bit.f x5).bind fun t102 => (logbookref03_Add.l1 k x1 t102 x6 (wrap64 (x7 + 1)))) else (logbookref03_Add.l0 k x1 x5 (wrap64 (x6 + 1)))
end
def logbookref03_Add.f (k : Nat) (a0 : Int) (l1 : List Int) : Option (Int) := logbookref03_Add.l0 k l1 (Go.bits .xor .u32 a0 4294967295) 0
theorem logbookref03_Add.mono_l : ∀ k, (∀ y0 y1 y2, LeO (logbookref03_Add.l0 k y0 y1 y2) (logbookref03_Add.l0 (k + 1) y0 y1 y2)) ∧ (∀ y0 y1 y2 y3, LeO (logbookref03_Add.l1 k y0 y1 y2 y3) (logbookref03_Add.l1 (k + 1) y0 y1 y2 y3))
  | 0 => ⟨fun _ _ _ r h => by simp [logbookref03_Add.l0] at h, fun _ _ _ _ r h => by simp [logbookref03_Add.l1] at h⟩
  | k + 1 => by
    obtain ⟨ih0, ih1⟩ := logbookref03_Add.mono_l k
    refine ⟨?_, ?_⟩
    · intro y0 y1 y2
      unfold logbookref03_Add.l0
      repeat' first
      | (with_reducible exact ih0 _ _ _)
      | (with_reducible exact ih1 _ _ _ _)
      | (with_reducible exact LeO.refl _)
      | (with_reducible exact LeO.none _)
      | (with_reducible refine LeO.ite ?_ ?_)
      | (with_reducible refine LeO.bind ?_ (fun _ => ?_))
      | exact ih0 _ _ _
      | exact ih1 _ _ _ _
      | exact LeO.none _
      | refine LeO.ite ?_ ?_
      | refine LeO.bind ?_ (fun _ => ?_)
    · intro y0 y1 y2 y3
      unfold logbookref03_Add.l1
      repeat' first
      | (with_reducible exact ih0 _ _ _)
      | (with_reducible exact ih1 _ _ _ _)
      | (with_reducible exact LeO.refl _)
      | (with_reducible exact LeO.none _)
      | (with_reducible refine LeO.ite ?_ ?_)
      | (with_reducible refine LeO.bind ?_ (fun _ => ?_))
      | exact ih0 _ _ _
      | exact ih1 _ _ _ _
      | exact LeO.none _
      | refine LeO.ite ?_ ?_
      | refine LeO.bind ?_ (fun _ => ?_)
theorem logbookref03_Add.mono : ∀ a0 a1 k, LeO (logbookref03_Add.f k a0 a1) (logbookref03_Add.f (k + 1) a0 a1) := by
  intro a0 a1 k
  obtain ⟨ih0, ih1⟩ := logbookref03_Add.mono_l k
  unfold logbookref03_Add.f
  repeat' first
      | (with_reducible exact ih0 _ _ _)
      | (with_reducible exact ih1 _ _ _ _)
      | (with_reducible exact LeO.refl _)
      | (with_reducible exact LeO.none _)
      | (with_reducible refine LeO.ite ?_ ?_)
      | (with_reducible refine LeO.bind ?_ (fun _ => ?_))
      | exact ih0 _ _ _
      | exact ih1 _ _ _ _
      | exact LeO.none _
      | refine LeO.ite ?_ ?_
      | refine LeO.bind ?_ (fun _ => ?_)
set_option maxHeartbeats 8000000 in
set_option maxRecDepth 100000 in
theorem logbookref03_Add.calls (k : Nat) (a0 : Int) (A1 : Option Addr) (c1 : Nat) (l1 : List Int) (r : Int) (w : World) (hr1 : Kd.C (Kd.int .u8) w A1 l1.length l1) (hc1 : l1.length ≤ c1) (h : logbookref03_Add.f k a0 l1 = some r) :
    Calls Try.prog 10 #[.int .u32 a0, .slice A1 l1.length c1] w fun e w' => e = .returned (.int .u32 r) ∧ Drawn0 w w' := by
  have HR1 := Aside0.mk hr1
  have HC1 := Aside0.mk hc1
  clear hr1 hc1
  have H : (logbookref03_Add.l0 k l1 (Go.bits .xor .u32 a0 4294967295) 0) = some r := h
  clear h
  have H' := Aside0.mk H
  clear H
  go_enter Try.func10, Try.ntmps10
  go_wp2
  go_loopg [5, 6] k (fun kq v5 v6 w' => ∃ (x5_1 : Int) (x6_1 : Int), v5 = .int .u32 x5_1 ∧ v6 = .int .i64 x6_1 ∧ Aside0 (logbookref03_Add.l0 kq l1 x5_1 x6_1 = some r) ∧ Aside0 (kq ≤ k) ∧ Drawn0 w w')
  case atStart => exact ⟨(Go.bits .xor .u32 a0 4294967295), (0), (by first | rfl | (simp; done) | (simp [*]; done) | exact isEmpty_bne _), (by first | rfl | (simp; done) | (simp [*]; done) | exact isEmpty_bne _), H', ⟨Nat.le_refl _⟩, by repeat (first | exact Drawn0.refl _ | apply Drawn0.step)⟩
  case round =>
    clear H'
    try clear c1
    try clear p2
    obtain ⟨x5_1, x6_1, rfl, rfl, HA, HK1, ⟨m1, rfl⟩⟩ := hrel
    cases gk with
    | zero => exact absurd HA.out (by simp [logbookref03_Add.l0])
    | succ k1 =>
      have H := HA.out
      clear HA
      simp only [logbookref03_Add.l0] at H
      by_cases c3 : x6_1 < (l1.length : Int)
      · rw [if_pos c3] at H
        have c3b0 : decide (x6_1 < (l1.length : Int)) = true := decide_eq_true c3
        clear c3
        by_cases c4 : 0 ≤ x6_1
        · rw [if_pos c4] at H
          have c4b0 : decide (0 ≤ x6_1) = true := decide_eq_true c4
          clear c4
          have H' := Aside0.mk H
          clear H
          have p101 : 0 ≤ (x6_1 : Int) := of_decide_eq_true (by first | (with_reducible assumption) | assumption)
          have q101 : x6_1 < (l1.length : Int) := of_decide_eq_true (by first | (with_reducible assumption) | assumption)
          obtain ⟨ad101, e101, hx101_0⟩ := Kd.at_int HR1.out x6_1 p101 q101
          cases e101
          replace p101 := eq_true p101
          replace q101 := eq_true q101
          go_wp2
          go_loopg [5, 7] k1 (fun kq v5 v7 w' => ∃ (x5_2 : Int) (x7_2 : Int), v5 = .int .u32 x5_2 ∧ v7 = .int .i64 x7_2 ∧ Aside0 (logbookref03_Add.l1 kq l1 x5_2 x6_1 x7_2 = some r) ∧ Aside0 (kq ≤ k1) ∧ Drawn0 w w')
          case atStart => exact ⟨(Go.bits .xor .u32 x5_1 ((rd l1 x6_1) % 4294967296)), (0), (by first | rfl | (simp; done) | (simp [*]; done) | exact isEmpty_bne _), (by first | rfl | (simp; done) | (simp [*]; done) | exact isEmpty_bne _), H', ⟨Nat.le_refl _⟩, by repeat (first | exact Drawn0.refl _ | apply Drawn0.step)⟩
          case round =>
            clear H'
            try clear c1
            try clear p1
            try clear q1
            try clear hx1
            try clear p2
            try clear c3
            try clear c3b0
            try clear c4
            try clear c4b0
            try clear hx101_0
            try clear p101
            try clear p2
            try clear q101
            obtain ⟨x5_2, x7_2, rfl, rfl, HA, HK2, ⟨m2, rfl⟩⟩ := hrel
            cases gk with
            | zero => exact absurd HA.out (by simp [logbookref03_Add.l1])
            | succ k2 =>
              have H := HA.out
              clear HA
              simp only [logbookref03_Add.l1] at H
              by_cases c5 : x7_2 < 8
              · rw [if_pos c5] at H
                have c5b0 : decide (x7_2 < 8) = true := decide_eq_true c5
                clear c5
                replace H := Option.bind_eq_some_iff.mp H
                obtain ⟨t102, A60, H⟩ := H
                replace H : (logbookref03_Add.l1 k2 l1 t102 x6_1 (wrap64 (x7_2 + 1))) = some r := H
                have A6 := Aside0.mk A60
                clear A60
                have H' := Aside0.mk H
                clear H
                go_wp2_with (first | ((with_reducible refine gate_callee (f := 12) rfl ?_); refine goesL_ (some 28) rfl rfl Try.func12 (by kernel_rfl) rfl #[.int .u32 x5_2] rfl (by (try simp only [List.map_toArray, List.map_cons, List.map_nil]); first | done | rfl | (simp only [List.length_drop, List.length_take]; rfl)) ?_; (with_reducible refine (logbookref03_bit.calls x5_2 t102 _ A6.out).mono ?_); rintro e w' ⟨rfl, ⟨nd, rfl⟩⟩; refine ⟨_, rfl, ?_⟩))
                go_roundg k2
                case measure => have := HK1.out; have := HK2.out; omega
                case rel => exact ⟨(t102), (wrap64 (x7_2 + 1)), (by first | rfl | (simp; done) | (simp [*]; done) | exact isEmpty_bne _), (by first | rfl | (simp; done) | (simp [*]; done) | exact isEmpty_bne _), H', ⟨by have := HK1.out; have := HK2.out; omega⟩, by repeat (first | exact Drawn0.refl _ | apply Drawn0.step)⟩
              · rw [if_neg c5] at H
                have c5b0 : decide (x7_2 < 8) = false := decide_eq_false c5
                clear c5
                have H' := Aside0.mk H
                clear H
                go_wp2
                go_roundg k2
                case measure => have := HK1.out; have := HK2.out; omega
                case rel => exact ⟨(x5_2), (wrap64 (x6_1 + 1)), (by first | rfl | (simp; done) | (simp [*]; done) | exact isEmpty_bne _), (by first | rfl | (simp; done) | (simp [*]; done) | exact isEmpty_bne _), H', ⟨by have := HK1.out; have := HK2.out; omega⟩, by repeat (first | exact Drawn0.refl _ | apply Drawn0.step)⟩
        · rw [if_neg c4] at H
          exact absurd H (by simp)
      · rw [if_neg c3] at H
        have c3b0 : decide (x6_1 < (l1.length : Int)) = false := decide_eq_false c3
        clear c3
        obtain rfl := Option.some.inj H
        go_wp2
        go_ret
        exact ⟨by first | rfl | (simp; done) | (simp [*]; done) | exact isEmpty_bne _, by repeat (first | exact Drawn0.refl _ | apply Drawn0.step)⟩

-- GIVEN rounds=1 making=1 needs=logbook/logbookref03.Add
/-! ### the table and its sums: by hand: an array behind a pointer -/
def cBit (c : Int) : Int := if c % 2 = 1 then bits .xor .u32 (c / 2) 3988292384 else c / 2
def cEnt : Nat → Int → Int
  | 0, c => c
  | k + 1, c => cEnt k (cBit c)
def tabAt (j : Nat) : Int := cEnt 8 (j : Int)
def U32 (x : Int) : Prop := 0 ≤ x ∧ x < 4294967296
theorem xor_in {a b : Int} (ha : U32 a) (hb : U32 b) : U32 (bits .xor .u32 a b) := by
  obtain ⟨A, rfl⟩ := Int.eq_ofNat_of_zero_le ha.1
  obtain ⟨B, rfl⟩ := Int.eq_ofNat_of_zero_le hb.1
  have h1 := ha.2
  have h2 := hb.2
  rw [u32_xor_nat A B (by omega) (by omega)]
  have hx : A ^^^ B < 2 ^ 32 := Nat.xor_lt_two_pow (by omega) (by omega)
  exact ⟨by omega, by omega⟩
theorem cBit_in {c : Int} (h : U32 c) : U32 (cBit c) := by
  have h1 := h.1
  have h2 := h.2
  unfold cBit
  by_cases hc : c % 2 = 1
  · rw [if_pos hc]
    exact xor_in ⟨by omega, by omega⟩ ⟨by omega, by omega⟩
  · rw [if_neg hc]
    exact ⟨by omega, by omega⟩
theorem cEnt_in : ∀ (k : Nat) {c : Int}, U32 c → U32 (cEnt k c)
  | 0, _, h => h
  | k + 1, _, h => cEnt_in k (cBit_in h)
theorem tabAt_in {j : Nat} (h : j < 256) : U32 (tabAt j) := cEnt_in 8 ⟨by omega, by omega⟩
theorem and1 {c : Int} (h : U32 c) : bits .and .u32 c 1 = c % 2 := by
  have := bits_mask .u32 32 (by decide) (fun n h0 h1 => by rw [IntKind.wrap_u32]; omega) 1 (by decide) c h.1 (by have := h.2; omega)
  simpa using this
def Tab (w : World) (B : Nat) : Prop := ∀ j, j < 256 → w.cell? ⟨B, j, none⟩ = some (.int .u32 (tabAt j))
theorem Tab.below {w w' : World} {B : Nat} (h : Tab w B) (hb : Below w.heap.size w w') : Tab w' B := fun j hj => cell_later hb (h j hj)
def zeros : Array Value := (List.replicate 256 (Value.int .u32 0)).toArray
def part256 (k j : Nat) : Int := if j < k then tabAt j else 0
theorem zeros_at (w : World) (j : Nat) (h : j < 256) : (w.alloc (.cells zeros 35)).cell? ⟨w.heap.size, j, none⟩ = some (.int .u32 (part256 0 j)) := by
  have e : zeros[j]? = some (.int .u32 0) := by
    unfold zeros
    rw [List.getElem?_toArray, List.getElem?_replicate, if_pos h]
  unfold World.cell?
  rw [heap_alloc_new]
  show zeros[j]? = _
  rw [e]
  rfl
theorem zeros_free (w : World) (j : Nat) : (w.alloc (.cells zeros 35)).frozen? ⟨w.heap.size, j, none⟩ = false := by
  unfold World.frozen?
  rw [heap_alloc_new]
  show (decide (0 ≤ j) && decide (j < 0)) = false
  simp
theorem part_next {k j : Nat} (h : j ≠ k) : part256 (k + 1) j = part256 k j := by
  unfold part256
  by_cases h1 : j < k
  · rw [if_pos h1, if_pos (by omega)]
  · rw [if_neg h1, if_neg (by omega)]
theorem part_here {k : Nat} : part256 (k + 1) k = tabAt k := if_pos (Nat.lt_succ_self k)
set_option maxHeartbeats 1600000 in
set_option maxRecDepth 100000 in
theorem crcMake.calls (w : World) : Calls Try.prog 6 #[] w fun e w' => e = .returned (.pointer (some ⟨w.heap.size, 0, none⟩)) ∧ Tab w' w.heap.size ∧ w.heap.size < w'.heap.size ∧ Below w.heap.size w w' := by
  have HB : Hid (Below w.heap.size w (w.alloc (.cells zeros 35))) := Lib.hid ((Below.refl _ _).alloc (Nat.le_refl _) _)
  have HC := Lib.hid (zeros_at w)
  have HF := Lib.hid (zeros_free w)
  go_enter Try.func6, Try.ntmps6
  go_wp2_with (first
    | (refine wpList_buildTo rfl 35 _ rfl (some 4) rfl zeros (by kernel_rfl) ?_))
  go_loopw [6, 2, 3] (fun i _ _ wr => ∃ k : Nat, k ≤ 256 ∧ i = .int .i64 k ∧ Hid (∀ j, j < 256 → wr.cell? ⟨w.heap.size, j, none⟩ = some (.int .u32 (part256 k j))) ∧ Hid (∀ j, wr.frozen? ⟨w.heap.size, j, none⟩ = false) ∧ Hid (Below w.heap.size w wr) ∧ Hid (w.heap.size < wr.heap.size)) (fun i _ _ _ => 256 - (intOf i).toNat)
  case atStart => exact ⟨0, Nat.zero_le _, rfl, HC, HF, HB, Lib.hid (by simp)⟩
  case round =>
    obtain ⟨k, hk, rfl, hcc, hff, hbb, hss⟩ := hrel
    by_cases hlt : k < 256
    · have hlt2 : (k : Int) < 256 := by omega
      have HT := Lib.hid (tabAt_in hlt)
      go_wp2
      go_loop [11, 3] (fun j c => ∃ (m : Nat) (x : Int), m ≤ 8 ∧ j = .int .i64 m ∧ c = .int .u32 x ∧ U32 x ∧ Hid (cEnt (8 - m) x = tabAt k)) (fun j _ => 8 - (intOf j).toNat)
      case atStart => exact ⟨0, k, by omega, rfl, rfl, ⟨by omega, by omega⟩, Lib.hid rfl⟩
      case round =>
        obtain ⟨m, x, hm, rfl, rfl, hx, he⟩ := hrel
        have hx1 := hx.1
        have hx2 := hx.2
        by_cases hm2 : m < 8
        · have hm3 : (m : Int) < 8 := by omega
          have ha := and1 hx
          have he2 : Hid (cEnt (8 - (m + 1)) (cBit x) = tabAt k) := Lib.hid (by rw [← he.out, show 8 - m = (8 - (m + 1)) + 1 by omega]; rfl)
          have hb := cBit_in hx
          by_cases h1 : x % 2 = 1
          · have hc : Hid (cBit x = bits .xor .u32 (x / 2) 3988292384) := Lib.hid (if_pos h1)
            rw [h1] at ha
            go_wp2
            go_round
            case rel => exact ⟨m + 1, cBit x, by omega, by go_num, by rw [hc.out], hb, he2⟩
            case measure => simp [intOf]; omega
          · have hc : Hid (cBit x = x / 2) := Lib.hid (if_neg h1)
            rw [show x % 2 = 0 by omega] at ha
            go_wp2
            go_round
            case rel => exact ⟨m + 1, cBit x, by omega, by go_num, by rw [hc.out], hb, he2⟩
            case measure => simp [intOf]; omega
        · have hm3 : (8 : Int) ≤ (m : Int) := by omega
          have hm4 : m = 8 := by omega
          have hxe : Hid (x = tabAt k) := Lib.hid (by rw [← he.out, hm4]; rfl)
          have hc := hcc.out k hlt
          have hf := hff.out k
          have h2 : (wr.cell? ⟨w.heap.size, k, none⟩).isSome = true := by rw [hc]; rfl
          have yes : ∀ j, j < 256 → (wr.setCell ⟨w.heap.size, k, none⟩ (.int .u32 x)).cell? ⟨w.heap.size, j, none⟩ = some (.int .u32 (part256 (k + 1) j)) := by
            intro j hj
            by_cases e : j = k
            · rw [e, World.cell?_setCell_same _ _ _ hc, part_here, hxe.out]
            · rw [World.cell?_setCell_other _ _ _ _ (fun he => e (by injection he with _ he _; exact he.symm)), part_next e]
              exact hcc.out j hj
          have YES := Lib.hid yes
          clear yes
          go_wp2
          go_roundw
          case rel => exact ⟨k + 1, by omega, by go_num, YES, Lib.hid (fun j => by rw [World.frozen?_setCell]; exact hff.out j), Lib.hid (hbb.out.setCell (Nat.le_refl _) _), Lib.hid (by have := hss.out; simpa [World.setCell] using this)⟩
          case measure => simp [intOf]; omega
    · have hlt2 : (256 : Int) ≤ (k : Int) := by omega
      have hk2 : k = 256 := by omega
      go_wp2
      go_ret
      exact ⟨rfl, fun j hj => by rw [hcc.out j hj, hk2]; unfold part256; rw [if_pos hj], hss.out, hbb.out⟩
def crcStep (s x : Int) : Int := bits .xor .u32 (tabAt (bits .xor .u8 (s % 256) x).toNat) (s / 256)
def crcAdd (sum : Int) (l : List Int) : Int := bits .xor .u32 IntKind.u32.max (l.foldl crcStep (bits .xor .u32 IntKind.u32.max sum))
theorem xor8_in {a b : Int} (h1 : 0 ≤ a) (h2 : a < 256) (h3 : 0 ≤ b) (h4 : b < 256) : 0 ≤ bits .xor .u8 a b ∧ bits .xor .u8 a b < 256 := by
  obtain ⟨A, rfl⟩ := Int.eq_ofNat_of_zero_le h1
  obtain ⟨B, rfl⟩ := Int.eq_ofNat_of_zero_le h3
  rw [u8_xor_nat A B (by omega) (by omega)]
  have hx : A ^^^ B < 2 ^ 8 := Nat.xor_lt_two_pow (by omega) (by omega)
  exact ⟨by omega, by omega⟩
theorem crcStep_in {s x : Int} (hs : U32 s) (hx : 0 ≤ x ∧ x ≤ 255) : U32 (crcStep s x) := by
  have h1 := hs.1
  have h2 := hs.2
  have h3 := xor8_in (a := s % 256) (b := x) (by omega) (by omega) hx.1 (by omega)
  exact xor_in (tabAt_in (by omega)) ⟨by omega, by omega⟩
theorem fold_next (l : List Int) (k : Nat) (h : k < l.length) (s : Int) : (l.take (k + 1)).foldl crcStep s = crcStep ((l.take k).foldl crcStep s) (l.getD k 0) := by
  rw [List.take_add_one, List.foldl_append, List.getElem?_eq_getElem h, List.getD_eq_getElem?_getD, List.getElem?_eq_getElem h]
  rfl
theorem fold_in : ∀ (l : List Int) (s : Int), U32 s → (∀ x ∈ l, 0 ≤ x ∧ x ≤ 255) → U32 (l.foldl crcStep s)
  | [], s, h, _ => h
  | x :: l, s, h, hl => fold_in l _ (crcStep_in h (hl x (by simp))) (fun y hy => hl y (List.mem_cons_of_mem _ hy))
set_option maxHeartbeats 1600000 in
theorem crcAdd_none (sum : Int) (A : Option Addr) (n c : Nat) (w : World) : Calls Try.prog 11 #[.pointer none, .int .u32 sum, .slice A n c] w fun e w' => e = .returned (.int .u32 0) ∧ Below w.heap.size w w' := by
  go_enter Try.func11, Try.ntmps11
  go_wp2
  go_ret
  exact ⟨rfl, Below.refl _ _⟩
set_option maxHeartbeats 1600000 in
theorem crcAdd_some (B : Nat) (sum : Int) (hs : U32 sum) (A : Option Addr) (c : Nat) (l : List Int) (hx : ∀ x ∈ l, 0 ≤ x ∧ x ≤ 255) (w : World) (ht : Tab w B) (hl : Kd.C (Kd.int .u8) w A l.length l) : Calls Try.prog 11 #[.pointer (some ⟨B, 0, none⟩), .int .u32 sum, .slice A l.length c] w fun e w' => e = .returned (.int .u32 (crcAdd sum l)) ∧ Below w.heap.size w w' := by
  have hm : U32 IntKind.u32.max := ⟨by decide, by decide⟩
  have h0 := xor_in hm hs
  have HA : Hid (crcAdd sum l = bits .xor .u32 IntKind.u32.max (l.foldl crcStep (bits .xor .u32 IntKind.u32.max sum))) := Lib.hid rfl
  generalize hg : crcAdd sum l = res at HA
  generalize hg2 : bits .xor .u32 IntKind.u32.max sum = s0 at h0 HA
  have HG := Lib.hid hg2
  have HT := Lib.hid ht
  have HL := Lib.hid hl
  have HX := Lib.hid hx
  have hlen := Kd.C_max hl
  clear ht hl hx hg hg2 hs hm
  go_enter Try.func11, Try.ntmps11
  go_wp2
  rw [HG.out]
  go_loop [15, 1, 8] (fun i s _ => ∃ k : Nat, k ≤ l.length ∧ i = .int .i64 k ∧ s = .int .u32 ((l.take k).foldl crcStep s0)) (fun i _ _ => l.length - (intOf i).toNat)
  case atStart => exact ⟨0, Nat.zero_le _, rfl, rfl⟩
  case round =>
    obtain ⟨k, hk, rfl, rfl⟩ := hrel
    by_cases hlt : k < l.length
    · have hlt2 : (k : Int) < (l.length : Int) := by omega
      have hk0 : (0 : Int) ≤ (k : Int) := by omega
      obtain ⟨ad, rfl, hc⟩ := Kd.at_int HL.out (k : Int) hk0 hlt2
      rw [Int.toNat_natCast] at hc
      have hn := fold_next l k hlt s0
      have hin := fold_in (l.take k) s0 h0 (fun x hx => HX.out x (List.mem_of_mem_take hx))
      have hxr : 0 ≤ rd l (k : Int) ∧ rd l (k : Int) ≤ 255 := by
        have : rd l (k : Int) = l[k] := by
          unfold rd
          rw [Int.toNat_natCast, List.getD_eq_getElem?_getD, List.getElem?_eq_getElem hlt]
          rfl
        rw [this]
        exact HX.out _ (List.getElem_mem hlt)
      have hxe : l.getD k 0 = rd l (k : Int) := rfl
      rw [hxe] at hn
      generalize hg1 : rd l (k : Int) = x at hc hxr hn
      generalize hg2 : (l.take k).foldl crcStep s0 = s at hin hn ⊢
      clear hg1 hg2 hxe
      have hs1 := hin.1
      have hs2 := hin.2
      have h8 := xor8_in (a := s % 256) (b := x) (by omega) (by omega) hxr.1 (by omega)
      have ht := HT.out (bits .xor .u8 (s % 256) x).toNat (by omega)
      have HN := Lib.hid hn
      have HS : Hid (crcStep s x = bits .xor .u32 (tabAt (bits .xor .u8 (s % 256) x).toNat) (s / 256)) := Lib.hid rfl
      clear hn
      go_wp2
      go_round
      case rel => exact ⟨k + 1, by omega, by go_num, by rw [HN.out, HS.out]⟩
      case measure => simp [intOf]; omega
    · have hlt2 : (l.length : Int) ≤ (k : Int) := by omega
      have hke : k = l.length := by omega
      have hfe : Hid ((l.take k).foldl crcStep s0 = l.foldl crcStep s0) := Lib.hid (by rw [hke, List.take_length])
      rw [hfe.out]
      go_wp2
      go_ret
      exact ⟨by rw [HA.out]; rfl, Below.refl _ _⟩
set_option maxHeartbeats 1600000 in
theorem crcSum_none (A : Option Addr) (n c : Nat) (w : World) : Calls Try.prog 9 #[.pointer none, .slice A n c] w fun e w' => e = .returned (.int .u32 0) ∧ Below w.heap.size w w' := by
  go_enter Try.func9, Try.ntmps9
  go_wp2_with (first
    | (go_at_call 11; (with_reducible refine (crcAdd_none 0 A n c _).mono ?_); rintro e w2 ⟨rfl, hb2⟩))
  go_ret
  exact ⟨rfl, hb2⟩
set_option maxHeartbeats 1600000 in
theorem crcSum_some (B : Nat) (A : Option Addr) (c : Nat) (l : List Int) (hx : ∀ x ∈ l, 0 ≤ x ∧ x ≤ 255) (w : World) (ht : Tab w B) (hl : Kd.C (Kd.int .u8) w A l.length l) : Calls Try.prog 9 #[.pointer (some ⟨B, 0, none⟩), .slice A l.length c] w fun e w' => e = .returned (.int .u32 (crcAdd 0 l)) ∧ Below w.heap.size w w' := by
  have HC := Lib.hid (crcAdd_some B 0 ⟨by decide, by decide⟩ A c l hx w ht hl)
  clear hx ht hl
  go_enter Try.func9, Try.ntmps9
  go_wp2_with (first
    | (go_at_call 11; (with_reducible refine (HC.out).mono ?_); rintro e w2 ⟨rfl, hb2⟩))
  go_ret
  exact ⟨rfl, hb2⟩
theorem awake_sum : crcAdd 0 [49, 50, 51, 52, 53, 54, 55, 56, 57] = 3421780262 := by decide +kernel
set_option maxHeartbeats 1600000 in
theorem crcAwake (w : World) : Calls Try.prog 8 #[] w fun e w' => e = .returned (.bool true) ∧ Below w.heap.size w w' := by
  have HC : Hid (∀ (W : World) (A : Addr), Tab W w.heap.size → Kd.C (Kd.int .u8) W (some A) 9 [49, 50, 51, 52, 53, 54, 55, 56, 57] → Calls Try.prog 9 #[.pointer (some ⟨w.heap.size, 0, none⟩), .slice (some A) 9 9] W fun e w' => e = .returned (.int .u32 3421780262) ∧ Below W.heap.size W w') :=
    Lib.hid (fun W A ht hl => by
      have := crcSum_some w.heap.size (some A) 9 [49, 50, 51, 52, 53, 54, 55, 56, 57] (by decide) W ht hl
      rw [awake_sum] at this
      exact this)
  go_enter Try.func8, Try.ntmps8
  go_wp2_with (first
    | (go_at_call 6; (with_reducible refine (crcMake.calls _).mono ?_); rintro e w2 ⟨rfl, ht2, hs2, hb2⟩; have HT2 := Lib.hid ht2; have HS2 := Lib.hid hs2; have HB2 := Lib.hid hb2; clear ht2 hs2 hb2)
    | (go_at_call 9; (with_reducible refine (HC.out _ ⟨w2.heap.size, 0, none⟩ ?a1 ?a2).mono ?_); (case a1 => exact HT2.out.below ((Below.refl _ _).alloc (Nat.le_refl _) _)); (case a2 => exact C_lit (enc := Value.int .u8) (xs := [49, 50, 51, 52, 53, 54, 55, 56, 57]) (blk_new _ _) (by decide)); rintro e w3 ⟨rfl, hb3⟩; have HB3 := Lib.hid hb3; clear hb3))
  go_ret
  exact ⟨rfl, HB2.out.trans ((((Below.refl _ _).alloc (Nat.le_refl _) _).trans (HB3.out.mono (by simp))).mono HB2.out.size)⟩
def byteAll (l : List Int) : Bool := l.all fun x => decide (0 ≤ x ∧ x ≤ 255)
theorem byteAll_out {l : List Int} (h : byteAll l = true) : ∀ x ∈ l, 0 ≤ x ∧ x ≤ 255 := fun x hx => of_decide_eq_true (List.all_eq_true.1 h x hx)
def logbooklaw03_CrcSums.f (k : Nat) (a0 : Int) (l1 : List Int) : Option Bool := if 3000 < l1.length then some true else
  (logbookref03_Add.f k 0 l1).bind fun x => (logbookref03_Add.f k a0 l1).bind fun y => if 0 ≤ a0 ∧ a0 < 4294967296 ∧ byteAll l1 = true ∧ x = crcAdd 0 l1 ∧ y = crcAdd a0 l1 then some true else none
set_option maxHeartbeats 3200000 in
theorem logbooklaw03_CrcSums.calls (k : Nat) (a0 : Int) (A1 : Option Addr) (c1 : Nat) (l1 : List Int) (r : Bool) (w : World) (hr1 : Kd.C (Kd.int .u8) w A1 l1.length l1) (hc1 : l1.length ≤ c1) (h : logbooklaw03_CrcSums.f k a0 l1 = some r) :
    Calls Try.prog 4 #[.int .u32 a0, .slice A1 l1.length c1] w fun e w' => e = .returned (.bool r) ∧ Below w.heap.size w w' := by
  unfold logbooklaw03_CrcSums.f at h
  by_cases hs : 3000 < l1.length
  · rw [if_pos hs] at h
    obtain rfl := Option.some.inj h
    have hs' : (3000 : Int) < (l1.length : Int) := by omega
    clear h hr1 hc1
    go_enter Try.func4, Try.ntmps4
    go_wp2_with (first
      | (go_at_call 8; (with_reducible refine (crcAwake _).mono ?_); rintro e w2 ⟨rfl, hb2⟩))
    go_ret
    exact ⟨rfl, hb2⟩
  rw [if_neg hs] at h
  have hs' : ¬ (3000 : Int) < (l1.length : Int) := by omega
  obtain ⟨x, h1, h2⟩ := Option.bind_eq_some_iff.1 h
  clear h
  obtain ⟨y, h3, h4⟩ := Option.bind_eq_some_iff.1 h2
  clear h2
  by_cases hc : 0 ≤ a0 ∧ a0 < 4294967296 ∧ byteAll l1 = true ∧ x = crcAdd 0 l1 ∧ y = crcAdd a0 l1
  case neg => rw [if_neg hc] at h4; cases h4
  rw [if_pos hc] at h4
  obtain ⟨g0, g1, g2, rfl, rfl⟩ := hc
  obtain rfl := Option.some.inj h4
  clear h4
  have HS : Hid (∀ W, Below w.heap.size w W → Tab W w.heap.size → Calls Try.prog 9 #[.pointer (some ⟨w.heap.size, 0, none⟩), .slice A1 l1.length c1] W fun e w' => e = .returned (.int .u32 (crcAdd 0 l1)) ∧ Below W.heap.size W w') :=
    Lib.hid (fun W hb ht => crcSum_some w.heap.size A1 c1 l1 (byteAll_out g2) W ht (Kd.C_below hr1 hb))
  have HD : Hid (∀ W, Below w.heap.size w W → Tab W w.heap.size → Calls Try.prog 11 #[.pointer (some ⟨w.heap.size, 0, none⟩), .int .u32 a0, .slice A1 l1.length c1] W fun e w' => e = .returned (.int .u32 (crcAdd a0 l1)) ∧ Below W.heap.size W w') :=
    Lib.hid (fun W hb ht => crcAdd_some w.heap.size a0 ⟨g0, g1⟩ A1 c1 l1 (byteAll_out g2) W ht (Kd.C_below hr1 hb))
  have HE : Hid (∀ W, Below w.heap.size w W → Calls Try.prog 10 #[.int .u32 0, .slice A1 l1.length c1] W fun e w' => e = .returned (.int .u32 (crcAdd 0 l1)) ∧ Drawn0 W w') :=
    Lib.hid (fun W hb => logbookref03_Add.calls k 0 A1 c1 l1 (crcAdd 0 l1) W (Kd.C_below hr1 hb) hc1 h1)
  have HF : Hid (∀ W, Below w.heap.size w W → Calls Try.prog 10 #[.int .u32 a0, .slice A1 l1.length c1] W fun e w' => e = .returned (.int .u32 (crcAdd a0 l1)) ∧ Drawn0 W w') :=
    Lib.hid (fun W hb => logbookref03_Add.calls k a0 A1 c1 l1 (crcAdd a0 l1) W (Kd.C_below hr1 hb) hc1 h3)
  clear h1 h3 hr1 hc1 g2
  generalize crcAdd 0 l1 = x at HS HE
  generalize crcAdd a0 l1 = y at HD HF
  go_enter Try.func4, Try.ntmps4
  go_wp2_with (first
    | (go_at_call 6; (with_reducible refine (crcMake.calls _).mono ?_); rintro e w2 ⟨rfl, ht2, hs2, hb2⟩; have HT2 := Lib.hid ht2; have HS2 := Lib.hid hs2; have HB2 := Lib.hid hb2; clear ht2 hs2 hb2)
    | (go_at_call 9; (with_reducible refine (HS.out _ HB2.out HT2.out).mono ?_); rintro e w3 ⟨rfl, hb3⟩; have HT3 := Lib.hid (HT2.out.below hb3); have HB3 := Lib.hid (HB2.out.trans (hb3.mono HB2.out.size)); clear hb3)
    | (go_at_call 10; (with_reducible refine (HE.out _ HB3.out).mono ?_); rintro e w4 ⟨rfl, hd4⟩; have hb4 := hd4.below; have HT4 := Lib.hid (HT3.out.below hb4); have HB4 := Lib.hid (HB3.out.trans (hb4.mono HB3.out.size)); clear hb4 hd4)
    | (go_at_call 11; (with_reducible refine (HD.out _ HB4.out HT4.out).mono ?_); rintro e w5 ⟨rfl, hb5⟩; have HT5 := Lib.hid (HT4.out.below hb5); have HB5 := Lib.hid (HB4.out.trans (hb5.mono HB4.out.size)); clear hb5)
    | (go_at_call 10; (with_reducible refine (HF.out _ HB5.out).mono ?_); rintro e w6 ⟨rfl, hd6⟩; have hb6 := hd6.below; have HB6 := Lib.hid (HB5.out.trans (hb6.mono HB5.out.size)); clear hb6 hd6)
    | (go_at_call 9; (with_reducible refine (crcSum_none A1 l1.length c1 _).mono ?_); rintro e w7 ⟨rfl, hb7⟩; have HB7 := Lib.hid (HB6.out.trans (hb7.mono HB6.out.size)); clear hb7)
    | (go_at_call 11; (with_reducible refine (crcAdd_none a0 A1 l1.length c1 _).mono ?_); rintro e w8 ⟨rfl, hb8⟩; have HB8 := Lib.hid (HB7.out.trans (hb8.mono HB7.out.size)); clear hb8)
    | (go_at_call 8; (with_reducible refine (crcAwake _).mono ?_); rintro e w9 ⟨rfl, hb9⟩; have HB9 := Lib.hid (HB8.out.trans (hb9.mono HB8.out.size)); clear hb9))
  go_ret
  exact ⟨rfl, HB9.out⟩

end Go.Proofs.Ytdpahmojoheljaa.PCrcSums
