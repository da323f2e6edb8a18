-- LAID BY gprint.py: a scratch copy of the print, with functions that this session proved by hand among the printed ones
import Derived.Test.YtdpahmojoheljaaPCrcTablesx0
namespace Go.Proofs.Ytdpahmojoheljaa.PCrcTables
open Go.RowKit Go.Proofs.YtdpahmojoheljaaW.PrintWords Go.Proofs.YtdpahmojoheljaaW.PrintLast Go.Proofs.Ytdpahmojoheljaa.Conv Go.Proofs.YtdpahmojoheljaaW.PrintMore
attribute [local go_sem] max2_int min2_int max_two min_two max_three min_three max_four min_four gtr_less   -- for this text's walks alone
set_option linter.unusedVariables false
set_option linter.unusedSimpArgs false

/-! ### logbookref03_bit: function 12 -/
def logbookref03_bit.f (a0 : Int) : Option (Int) := if (Int.tmod a0 2) = 1 then (some (Go.bits .xor .u32 ((Int.tdiv a0 2) % 4294967296) 3988292384)) else (some ((Int.tdiv a0 2) % 4294967296))
set_option maxHeartbeats 8000000 in
set_option maxRecDepth 100000 in
theorem logbookref03_bit.calls (a0 : Int) (r : Int) (w : World) (h : logbookref03_bit.f a0 = some r) :
    Calls Try.prog 12 #[.int .u32 a0] w fun e w' => e = .returned (.int .u32 r) ∧ Drawn0 w w' := by
  have H : (if (Int.tmod a0 2) = 1 then (some (Go.bits .xor .u32 ((Int.tdiv a0 2) % 4294967296) 3988292384)) else (some ((Int.tdiv a0 2) % 4294967296))) = some r := h
  clear h
  by_cases c2 : (Int.tmod a0 2) = 1
  · rw [if_pos c2] at H
    have c2b0 : ((Int.tmod a0 2) == 1) = true := beq_iff_eq.mpr c2
    have c2b1 : ((Int.tmod a0 2) != 1) = false := bne_eq_false_iff_eq.mpr c2
    clear c2
    obtain rfl := Option.some.inj H
    go_enter Try.func12, Try.ntmps12
    go_wp2
    go_ret
    exact ⟨by first | rfl | (simp; done) | (simp [*]; done) | exact isEmpty_bne _, by repeat (first | exact Drawn0.refl _ | apply Drawn0.step)⟩
  · rw [if_neg c2] at H
    have c2b0 : ((Int.tmod a0 2) == 1) = false := beq_eq_false_iff_ne.mpr c2
    have c2b1 : ((Int.tmod a0 2) != 1) = true := bne_iff_ne.mpr c2
    obtain rfl := Option.some.inj H
    go_enter Try.func12, Try.ntmps12
    go_wp2
    go_ret
    exact ⟨by first | rfl | (simp; done) | (simp [*]; done) | exact isEmpty_bne _, by repeat (first | exact Drawn0.refl _ | apply Drawn0.step)⟩

/-! ### logbookref03_Entry: function 7 -/
def logbookref03_Entry.l0 : Nat → Int → Int → Option (Int)
  | 0, _, _ => none
  | k + 1, x0, x3 => if x3 < 8 then ((logbookref03_bit.f x0).bind fun t101 => (logbookref03_Entry.l0 k t101 (wrap64 (x3 + 1)))) else (some x0)
def logbookref03_Entry.f (k : Nat) (a0 : Int) : Option (Int) := logbookref03_Entry.l0 k a0 0
theorem logbookref03_Entry.mono_l : ∀ k, (∀ y0 y1, LeO (logbookref03_Entry.l0 k y0 y1) (logbookref03_Entry.l0 (k + 1) y0 y1))
  | 0 => fun _ _ r h => by simp [logbookref03_Entry.l0] at h
  | k + 1 => by
    have ih0 := logbookref03_Entry.mono_l k
    · intro y0 y1
      unfold logbookref03_Entry.l0
      repeat' first
      | (with_reducible exact ih0 _ _)
      | (with_reducible exact LeO.refl _)
      | (with_reducible exact LeO.none _)
      | (with_reducible refine LeO.ite ?_ ?_)
      | (with_reducible refine LeO.bind ?_ (fun _ => ?_))
      | exact ih0 _ _
      | exact LeO.none _
      | refine LeO.ite ?_ ?_
      | refine LeO.bind ?_ (fun _ => ?_)
theorem logbookref03_Entry.mono : ∀ a0 k, LeO (logbookref03_Entry.f k a0) (logbookref03_Entry.f (k + 1) a0) := by
  intro a0 k
  have ih0 := logbookref03_Entry.mono_l k
  unfold logbookref03_Entry.f
  repeat' first
      | (with_reducible exact ih0 _ _)
      | (with_reducible exact LeO.refl _)
      | (with_reducible exact LeO.none _)
      | (with_reducible refine LeO.ite ?_ ?_)
      | (with_reducible refine LeO.bind ?_ (fun _ => ?_))
      | exact ih0 _ _
      | exact LeO.none _
      | refine LeO.ite ?_ ?_
      | refine LeO.bind ?_ (fun _ => ?_)
set_option maxHeartbeats 8000000 in
set_option maxRecDepth 100000 in
theorem logbookref03_Entry.calls (k : Nat) (a0 : Int) (r : Int) (w : World) (h : logbookref03_Entry.f k a0 = some r) :
    Calls Try.prog 7 #[.int .u32 a0] w fun e w' => e = .returned (.int .u32 r) ∧ Drawn0 w w' := by
  have H : (logbookref03_Entry.l0 k a0 0) = some r := h
  clear h
  have H' := Aside0.mk H
  clear H
  go_enter Try.func7, Try.ntmps7
  go_wp2
  go_loopg [0, 3] k (fun kq v0 v3 w' => ∃ (x0_1 : Int) (x3_1 : Int), v0 = .int .u32 x0_1 ∧ v3 = .int .i64 x3_1 ∧ Aside0 (logbookref03_Entry.l0 kq x0_1 x3_1 = some r) ∧ Aside0 (kq ≤ k) ∧ Drawn0 w w')
  case atStart => exact ⟨(a0), (0), (by first | rfl | (simp; done) | (simp [*]; done) | exact isEmpty_bne _), (by first | rfl | (simp; done) | (simp [*]; done) | exact isEmpty_bne _), H', ⟨Nat.le_refl _⟩, by repeat (first | exact Drawn0.refl _ | apply Drawn0.step)⟩
  case round =>
    clear H'
    obtain ⟨x0_1, x3_1, rfl, rfl, HA, HK1, ⟨m1, rfl⟩⟩ := hrel
    cases gk with
    | zero => exact absurd HA.out (by simp [logbookref03_Entry.l0])
    | succ k1 =>
      have H := HA.out
      clear HA
      simp only [logbookref03_Entry.l0] at H
      by_cases c2 : x3_1 < 8
      · rw [if_pos c2] at H
        have c2b0 : decide (x3_1 < 8) = true := decide_eq_true c2
        clear c2
        replace H := Option.bind_eq_some_iff.mp H
        obtain ⟨t101, A30, H⟩ := H
        replace H : (logbookref03_Entry.l0 k1 t101 (wrap64 (x3_1 + 1))) = some r := H
        have A3 := Aside0.mk A30
        clear A30
        have H' := Aside0.mk H
        clear H
        go_wp2_with (first | ((with_reducible refine gate_callee (f := 12) rfl ?_); refine goesL_ (some 9) rfl rfl Try.func12 (by kernel_rfl) rfl #[.int .u32 x0_1] rfl (by (try simp only [List.map_toArray, List.map_cons, List.map_nil]); first | done | rfl | (simp only [List.length_drop, List.length_take]; rfl)) ?_; (with_reducible refine (logbookref03_bit.calls x0_1 t101 _ A3.out).mono ?_); rintro e w' ⟨rfl, ⟨nd, rfl⟩⟩; refine ⟨_, rfl, ?_⟩))
        go_roundg k1
        case measure => have := HK1.out; omega
        case rel => exact ⟨(t101), (wrap64 (x3_1 + 1)), (by first | rfl | (simp; done) | (simp [*]; done) | exact isEmpty_bne _), (by first | rfl | (simp; done) | (simp [*]; done) | exact isEmpty_bne _), H', ⟨by have := HK1.out; omega⟩, by repeat (first | exact Drawn0.refl _ | apply Drawn0.step)⟩
      · rw [if_neg c2] at H
        have c2b0 : decide (x3_1 < 8) = false := decide_eq_false c2
        clear c2
        obtain rfl := Option.some.inj H
        go_wp2
        go_ret
        exact ⟨by first | rfl | (simp; done) | (simp [*]; done) | exact isEmpty_bne _, by repeat (first | exact Drawn0.refl _ | apply Drawn0.step)⟩

-- GIVEN rounds=1 making=1 needs=logbook/logbookref03.Entry
/-! ### the table and its sums: by hand: an array behind a pointer -/
def cBit (c : Int) : Int := if c % 2 = 1 then bits .xor .u32 (c / 2) 3988292384 else c / 2
def cEnt : Nat → Int → Int
  | 0, c => c
  | k + 1, c => cEnt k (cBit c)
def tabAt (j : Nat) : Int := cEnt 8 (j : Int)
def U32 (x : Int) : Prop := 0 ≤ x ∧ x < 4294967296
theorem xor_in {a b : Int} (ha : U32 a) (hb : U32 b) : U32 (bits .xor .u32 a b) := by
  obtain ⟨A, rfl⟩ := Int.eq_ofNat_of_zero_le ha.1
  obtain ⟨B, rfl⟩ := Int.eq_ofNat_of_zero_le hb.1
  have h1 := ha.2
  have h2 := hb.2
  rw [u32_xor_nat A B (by omega) (by omega)]
  have hx : A ^^^ B < 2 ^ 32 := Nat.xor_lt_two_pow (by omega) (by omega)
  exact ⟨by omega, by omega⟩
theorem cBit_in {c : Int} (h : U32 c) : U32 (cBit c) := by
  have h1 := h.1
  have h2 := h.2
  unfold cBit
  by_cases hc : c % 2 = 1
  · rw [if_pos hc]
    exact xor_in ⟨by omega, by omega⟩ ⟨by omega, by omega⟩
  · rw [if_neg hc]
    exact ⟨by omega, by omega⟩
theorem cEnt_in : ∀ (k : Nat) {c : Int}, U32 c → U32 (cEnt k c)
  | 0, _, h => h
  | k + 1, _, h => cEnt_in k (cBit_in h)
theorem tabAt_in {j : Nat} (h : j < 256) : U32 (tabAt j) := cEnt_in 8 ⟨by omega, by omega⟩
theorem and1 {c : Int} (h : U32 c) : bits .and .u32 c 1 = c % 2 := by
  have := bits_mask .u32 32 (by decide) (fun n h0 h1 => by rw [IntKind.wrap_u32]; omega) 1 (by decide) c h.1 (by have := h.2; omega)
  simpa using this
def Tab (w : World) (B : Nat) : Prop := ∀ j, j < 256 → w.cell? ⟨B, j, none⟩ = some (.int .u32 (tabAt j))
theorem Tab.below {w w' : World} {B : Nat} (h : Tab w B) (hb : Below w.heap.size w w') : Tab w' B := fun j hj => cell_later hb (h j hj)
def zeros : Array Value := (List.replicate 256 (Value.int .u32 0)).toArray
def part256 (k j : Nat) : Int := if j < k then tabAt j else 0
theorem zeros_at (w : World) (j : Nat) (h : j < 256) : (w.alloc (.cells zeros 35)).cell? ⟨w.heap.size, j, none⟩ = some (.int .u32 (part256 0 j)) := by
  have e : zeros[j]? = some (.int .u32 0) := by
    unfold zeros
    rw [List.getElem?_toArray, List.getElem?_replicate, if_pos h]
  unfold World.cell?
  rw [heap_alloc_new]
  show zeros[j]? = _
  rw [e]
  rfl
theorem zeros_free (w : World) (j : Nat) : (w.alloc (.cells zeros 35)).frozen? ⟨w.heap.size, j, none⟩ = false := by
  unfold World.frozen?
  rw [heap_alloc_new]
  show (decide (0 ≤ j) && decide (j < 0)) = false
  simp
theorem part_next {k j : Nat} (h : j ≠ k) : part256 (k + 1) j = part256 k j := by
  unfold part256
  by_cases h1 : j < k
  · rw [if_pos h1, if_pos (by omega)]
  · rw [if_neg h1, if_neg (by omega)]
theorem part_here {k : Nat} : part256 (k + 1) k = tabAt k := if_pos (Nat.lt_succ_self k)
set_option maxHeartbeats 1600000 in
set_option maxRecDepth 100000 in
theorem crcMake.calls (w : World) : Calls Try.prog 6 #[] w fun e w' => e = .returned (.pointer (some ⟨w.heap.size, 0, none⟩)) ∧ Tab w' w.heap.size ∧ w.heap.size < w'.heap.size ∧ Below w.heap.size w w' := by
  have HB : Hid (Below w.heap.size w (w.alloc (.cells zeros 35))) := Lib.hid ((Below.refl _ _).alloc (Nat.le_refl _) _)
  have HC := Lib.hid (zeros_at w)
  have HF := Lib.hid (zeros_free w)
  go_enter Try.func6, Try.ntmps6
  go_wp2_with (first
    | (refine wpList_buildTo rfl 35 _ rfl (some 4) rfl zeros (by kernel_rfl) ?_))
  go_loopw [6, 2, 3] (fun i _ _ wr => ∃ k : Nat, k ≤ 256 ∧ i = .int .i64 k ∧ Hid (∀ j, j < 256 → wr.cell? ⟨w.heap.size, j, none⟩ = some (.int .u32 (part256 k j))) ∧ Hid (∀ j, wr.frozen? ⟨w.heap.size, j, none⟩ = false) ∧ Hid (Below w.heap.size w wr) ∧ Hid (w.heap.size < wr.heap.size)) (fun i _ _ _ => 256 - (intOf i).toNat)
  case atStart => exact ⟨0, Nat.zero_le _, rfl, HC, HF, HB, Lib.hid (by simp)⟩
  case round =>
    obtain ⟨k, hk, rfl, hcc, hff, hbb, hss⟩ := hrel
    by_cases hlt : k < 256
    · have hlt2 : (k : Int) < 256 := by omega
      have HT := Lib.hid (tabAt_in hlt)
      go_wp2
      go_loop [11, 3] (fun j c => ∃ (m : Nat) (x : Int), m ≤ 8 ∧ j = .int .i64 m ∧ c = .int .u32 x ∧ U32 x ∧ Hid (cEnt (8 - m) x = tabAt k)) (fun j _ => 8 - (intOf j).toNat)
      case atStart => exact ⟨0, k, by omega, rfl, rfl, ⟨by omega, by omega⟩, Lib.hid rfl⟩
      case round =>
        obtain ⟨m, x, hm, rfl, rfl, hx, he⟩ := hrel
        have hx1 := hx.1
        have hx2 := hx.2
        by_cases hm2 : m < 8
        · have hm3 : (m : Int) < 8 := by omega
          have ha := and1 hx
          have he2 : Hid (cEnt (8 - (m + 1)) (cBit x) = tabAt k) := Lib.hid (by rw [← he.out, show 8 - m = (8 - (m + 1)) + 1 by omega]; rfl)
          have hb := cBit_in hx
          by_cases h1 : x % 2 = 1
          · have hc : Hid (cBit x = bits .xor .u32 (x / 2) 3988292384) := Lib.hid (if_pos h1)
            rw [h1] at ha
            go_wp2
            go_round
            case rel => exact ⟨m + 1, cBit x, by omega, by go_num, by rw [hc.out], hb, he2⟩
            case measure => simp [intOf]; omega
          · have hc : Hid (cBit x = x / 2) := Lib.hid (if_neg h1)
            rw [show x % 2 = 0 by omega] at ha
            go_wp2
            go_round
            case rel => exact ⟨m + 1, cBit x, by omega, by go_num, by rw [hc.out], hb, he2⟩
            case measure => simp [intOf]; omega
        · have hm3 : (8 : Int) ≤ (m : Int) := by omega
          have hm4 : m = 8 := by omega
          have hxe : Hid (x = tabAt k) := Lib.hid (by rw [← he.out, hm4]; rfl)
          have hc := hcc.out k hlt
          have hf := hff.out k
          have h2 : (wr.cell? ⟨w.heap.size, k, none⟩).isSome = true := by rw [hc]; rfl
          have yes : ∀ j, j < 256 → (wr.setCell ⟨w.heap.size, k, none⟩ (.int .u32 x)).cell? ⟨w.heap.size, j, none⟩ = some (.int .u32 (part256 (k + 1) j)) := by
            intro j hj
            by_cases e : j = k
            · rw [e, World.cell?_setCell_same _ _ _ hc, part_here, hxe.out]
            · rw [World.cell?_setCell_other _ _ _ _ (fun he => e (by injection he with _ he _; exact he.symm)), part_next e]
              exact hcc.out j hj
          have YES := Lib.hid yes
          clear yes
          go_wp2
          go_roundw
          case rel => exact ⟨k + 1, by omega, by go_num, YES, Lib.hid (fun j => by rw [World.frozen?_setCell]; exact hff.out j), Lib.hid (hbb.out.setCell (Nat.le_refl _) _), Lib.hid (by have := hss.out; simpa [World.setCell] using this)⟩
          case measure => simp [intOf]; omega
    · have hlt2 : (256 : Int) ≤ (k : Int) := by omega
      have hk2 : k = 256 := by omega
      go_wp2
      go_ret
      exact ⟨rfl, fun j hj => by rw [hcc.out j hj, hk2]; unfold part256; rw [if_pos hj], hss.out, hbb.out⟩
def crcStep (s x : Int) : Int := bits .xor .u32 (tabAt (bits .xor .u8 (s % 256) x).toNat) (s / 256)
def crcAdd (sum : Int) (l : List Int) : Int := bits .xor .u32 IntKind.u32.max (l.foldl crcStep (bits .xor .u32 IntKind.u32.max sum))
theorem xor8_in {a b : Int} (h1 : 0 ≤ a) (h2 : a < 256) (h3 : 0 ≤ b) (h4 : b < 256) : 0 ≤ bits .xor .u8 a b ∧ bits .xor .u8 a b < 256 := by
  obtain ⟨A, rfl⟩ := Int.eq_ofNat_of_zero_le h1
  obtain ⟨B, rfl⟩ := Int.eq_ofNat_of_zero_le h3
  rw [u8_xor_nat A B (by omega) (by omega)]
  have hx : A ^^^ B < 2 ^ 8 := Nat.xor_lt_two_pow (by omega) (by omega)
  exact ⟨by omega, by omega⟩
theorem crcStep_in {s x : Int} (hs : U32 s) (hx : 0 ≤ x ∧ x ≤ 255) : U32 (crcStep s x) := by
  have h1 := hs.1
  have h2 := hs.2
  have h3 := xor8_in (a := s % 256) (b := x) (by omega) (by omega) hx.1 (by omega)
  exact xor_in (tabAt_in (by omega)) ⟨by omega, by omega⟩
theorem fold_next (l : List Int) (k : Nat) (h : k < l.length) (s : Int) : (l.take (k + 1)).foldl crcStep s = crcStep ((l.take k).foldl crcStep s) (l.getD k 0) := by
  rw [List.take_add_one, List.foldl_append, List.getElem?_eq_getElem h, List.getD_eq_getElem?_getD, List.getElem?_eq_getElem h]
  rfl
theorem fold_in : ∀ (l : List Int) (s : Int), U32 s → (∀ x ∈ l, 0 ≤ x ∧ x ≤ 255) → U32 (l.foldl crcStep s)
  | [], s, h, _ => h
  | x :: l, s, h, hl => fold_in l _ (crcStep_in h (hl x (by simp))) (fun y hy => hl y (List.mem_cons_of_mem _ hy))
set_option maxHeartbeats 1600000 in
theorem crcAdd_none (sum : Int) (A : Option Addr) (n c : Nat) (w : World) : Calls Try.prog 11 #[.pointer none, .int .u32 sum, .slice A n c] w fun e w' => e = .returned (.int .u32 0) ∧ Below w.heap.size w w' := by
  go_enter Try.func11, Try.ntmps11
  go_wp2
  go_ret
  exact ⟨rfl, Below.refl _ _⟩
set_option maxHeartbeats 1600000 in
theorem crcAdd_some (B : Nat) (sum : Int) (hs : U32 sum) (A : Option Addr) (c : Nat) (l : List Int) (hx : ∀ x ∈ l, 0 ≤ x ∧ x ≤ 255) (w : World) (ht : Tab w B) (hl : Kd.C (Kd.int .u8) w A l.length l) : Calls Try.prog 11 #[.pointer (some ⟨B, 0, none⟩), .int .u32 sum, .slice A l.length c] w fun e w' => e = .returned (.int .u32 (crcAdd sum l)) ∧ Below w.heap.size w w' := by
  have hm : U32 IntKind.u32.max := ⟨by decide, by decide⟩
  have h0 := xor_in hm hs
  have HA : Hid (crcAdd sum l = bits .xor .u32 IntKind.u32.max (l.foldl crcStep (bits .xor .u32 IntKind.u32.max sum))) := Lib.hid rfl
  generalize hg : crcAdd sum l = res at HA
  generalize hg2 : bits .xor .u32 IntKind.u32.max sum = s0 at h0 HA
  have HG := Lib.hid hg2
  have HT := Lib.hid ht
  have HL := Lib.hid hl
  have HX := Lib.hid hx
  have hlen := Kd.C_max hl
  clear ht hl hx hg hg2 hs hm
  go_enter Try.func11, Try.ntmps11
  go_wp2
  rw [HG.out]
  go_loop [15, 1, 8] (fun i s _ => ∃ k : Nat, k ≤ l.length ∧ i = .int .i64 k ∧ s = .int .u32 ((l.take k).foldl crcStep s0)) (fun i _ _ => l.length - (intOf i).toNat)
  case atStart => exact ⟨0, Nat.zero_le _, rfl, rfl⟩
  case round =>
    obtain ⟨k, hk, rfl, rfl⟩ := hrel
    by_cases hlt : k < l.length
    · have hlt2 : (k : Int) < (l.length : Int) := by omega
      have hk0 : (0 : Int) ≤ (k : Int) := by omega
      obtain ⟨ad, rfl, hc⟩ := Kd.at_int HL.out (k : Int) hk0 hlt2
      rw [Int.toNat_natCast] at hc
      have hn := fold_next l k hlt s0
      have hin := fold_in (l.take k) s0 h0 (fun x hx => HX.out x (List.mem_of_mem_take hx))
      have hxr : 0 ≤ rd l (k : Int) ∧ rd l (k : Int) ≤ 255 := by
        have : rd l (k : Int) = l[k] := by
          unfold rd
          rw [Int.toNat_natCast, List.getD_eq_getElem?_getD, List.getElem?_eq_getElem hlt]
          rfl
        rw [this]
        exact HX.out _ (List.getElem_mem hlt)
      have hxe : l.getD k 0 = rd l (k : Int) := rfl
      rw [hxe] at hn
      generalize hg1 : rd l (k : Int) = x at hc hxr hn
      generalize hg2 : (l.take k).foldl crcStep s0 = s at hin hn ⊢
      clear hg1 hg2 hxe
      have hs1 := hin.1
      have hs2 := hin.2
      have h8 := xor8_in (a := s % 256) (b := x) (by omega) (by omega) hxr.1 (by omega)
      have ht := HT.out (bits .xor .u8 (s % 256) x).toNat (by omega)
      have HN := Lib.hid hn
      have HS : Hid (crcStep s x = bits .xor .u32 (tabAt (bits .xor .u8 (s % 256) x).toNat) (s / 256)) := Lib.hid rfl
      clear hn
      go_wp2
      go_round
      case rel => exact ⟨k + 1, by omega, by go_num, by rw [HN.out, HS.out]⟩
      case measure => simp [intOf]; omega
    · have hlt2 : (l.length : Int) ≤ (k : Int) := by omega
      have hke : k = l.length := by omega
      have hfe : Hid ((l.take k).foldl crcStep s0 = l.foldl crcStep s0) := Lib.hid (by rw [hke, List.take_length])
      rw [hfe.out]
      go_wp2
      go_ret
      exact ⟨by rw [HA.out]; rfl, Below.refl _ _⟩
set_option maxHeartbeats 1600000 in
theorem crcSum_none (A : Option Addr) (n c : Nat) (w : World) : Calls Try.prog 9 #[.pointer none, .slice A n c] w fun e w' => e = .returned (.int .u32 0) ∧ Below w.heap.size w w' := by
  go_enter Try.func9, Try.ntmps9
  go_wp2_with (first
    | (go_at_call 11; (with_reducible refine (crcAdd_none 0 A n c _).mono ?_); rintro e w2 ⟨rfl, hb2⟩))
  go_ret
  exact ⟨rfl, hb2⟩
set_option maxHeartbeats 1600000 in
theorem crcSum_some (B : Nat) (A : Option Addr) (c : Nat) (l : List Int) (hx : ∀ x ∈ l, 0 ≤ x ∧ x ≤ 255) (w : World) (ht : Tab w B) (hl : Kd.C (Kd.int .u8) w A l.length l) : Calls Try.prog 9 #[.pointer (some ⟨B, 0, none⟩), .slice A l.length c] w fun e w' => e = .returned (.int .u32 (crcAdd 0 l)) ∧ Below w.heap.size w w' := by
  have HC := Lib.hid (crcAdd_some B 0 ⟨by decide, by decide⟩ A c l hx w ht hl)
  clear hx ht hl
  go_enter Try.func9, Try.ntmps9
  go_wp2_with (first
    | (go_at_call 11; (with_reducible refine (HC.out).mono ?_); rintro e w2 ⟨rfl, hb2⟩))
  go_ret
  exact ⟨rfl, hb2⟩
theorem awake_sum : crcAdd 0 [49, 50, 51, 52, 53, 54, 55, 56, 57] = 3421780262 := by decide +kernel
set_option maxHeartbeats 1600000 in
theorem crcAwake (w : World) : Calls Try.prog 8 #[] w fun e w' => e = .returned (.bool true) ∧ Below w.heap.size w w' := by
  have HC : Hid (∀ (W : World) (A : Addr), Tab W w.heap.size → Kd.C (Kd.int .u8) W (some A) 9 [49, 50, 51, 52, 53, 54, 55, 56, 57] → Calls Try.prog 9 #[.pointer (some ⟨w.heap.size, 0, none⟩), .slice (some A) 9 9] W fun e w' => e = .returned (.int .u32 3421780262) ∧ Below W.heap.size W w') :=
    Lib.hid (fun W A ht hl => by
      have := crcSum_some w.heap.size (some A) 9 [49, 50, 51, 52, 53, 54, 55, 56, 57] (by decide) W ht hl
      rw [awake_sum] at this
      exact this)
  go_enter Try.func8, Try.ntmps8
  go_wp2_with (first
    | (go_at_call 6; (with_reducible refine (crcMake.calls _).mono ?_); rintro e w2 ⟨rfl, ht2, hs2, hb2⟩; have HT2 := Lib.hid ht2; have HS2 := Lib.hid hs2; have HB2 := Lib.hid hb2; clear ht2 hs2 hb2)
    | (go_at_call 9; (with_reducible refine (HC.out _ ⟨w2.heap.size, 0, none⟩ ?a1 ?a2).mono ?_); (case a1 => exact HT2.out.below ((Below.refl _ _).alloc (Nat.le_refl _) _)); (case a2 => exact C_lit (enc := Value.int .u8) (xs := [49, 50, 51, 52, 53, 54, 55, 56, 57]) (blk_new _ _) (by decide)); rintro e w3 ⟨rfl, hb3⟩; have HB3 := Lib.hid hb3; clear hb3))
  go_ret
  exact ⟨rfl, HB2.out.trans ((((Below.refl _ _).alloc (Nat.le_refl _) _).trans (HB3.out.mono (by simp))).mono HB2.out.size)⟩
theorem crcDrawn {W W' : World} (h : Drawn0 W W') : Below W.heap.size W W' := by
  obtain ⟨m, rfl⟩ := h
  exact pw_below_drewN (Below.refl _ _) m
def logbooklaw03_CrcTables.f (k : Nat) (a0 : Int) : Option Bool := (logbookref03_Entry.f k a0).bind fun r => if 0 ≤ a0 ∧ a0 < 256 ∧ r = tabAt a0.toNat then some true else none
set_option maxHeartbeats 3200000 in
theorem logbooklaw03_CrcTables.calls (k : Nat) (a0 : Int) (r : Bool) (w : World) (h : logbooklaw03_CrcTables.f k a0 = some r) :
    Calls Try.prog 3 #[.int .u8 a0] w fun e w' => e = .returned (.bool r) ∧ Below w.heap.size w w' := by
  unfold logbooklaw03_CrcTables.f at h
  obtain ⟨x, h1, h2⟩ := Option.bind_eq_some_iff.1 h
  clear h
  by_cases hc : 0 ≤ a0 ∧ a0 < 256 ∧ x = tabAt a0.toNat
  case neg => rw [if_neg hc] at h2; cases h2
  rw [if_pos hc] at h2
  obtain ⟨g0, g1, rfl⟩ := hc
  obtain rfl := Option.some.inj h2
  clear h2
  obtain ⟨n, rfl⟩ := Int.eq_ofNat_of_zero_le g0
  rw [Int.toNat_natCast] at h1
  have hn : n < 256 := by omega
  have HE : Hid (∀ W, Calls Try.prog 7 #[.int .u32 (IntKind.u32.wrap (n : Int))] W fun e w' => e = .returned (.int .u32 (tabAt n)) ∧ Drawn0 W w') := Lib.hid (fun W => by
    rw [IntKind.wrap_u32, show (n : Int) % 4294967296 = n by omega]
    exact logbookref03_Entry.calls k (n : Int) (tabAt n) W h1)
  clear h1
  generalize hg : tabAt n = x at HE
  have HG := Lib.hid hg
  clear hg
  have n1 : n < 256 := hn
  have n2 : (n : Int) % 4294967296 = n := by omega
  go_enter Try.func3, Try.ntmps3
  go_upto_region 2 with (first
    | (go_at_call 6; (with_reducible refine (crcMake.calls _).mono ?_); rintro e w2 ⟨rfl, ht2, hs2, hb2⟩; have hc2 := ht2 n n1; rw [HG.out] at hc2; have HS2 := Lib.hid hs2; have HB2 := Lib.hid hb2; clear ht2 hs2 hb2))
  go_region_with (first
    | (go_at_call 7; (with_reducible refine (HE.out _).mono ?_); rintro e w3 ⟨rfl, hd3⟩; have hb3 := crcDrawn hd3; have hc3 := cell_later (by first | exact hb3 | exact (Below.refl _ _).drew.trans hb3) hc2; have HB3 : Hid (Below w.heap.size w w3) := Lib.hid (Below.trans (by first | exact HB2.out | exact HB2.out.drew) (hb3.mono (Below.size (by first | exact HB2.out | exact HB2.out.drew)))); clear hd3 hb3 hc2 HB2; have hc2 := hc3; have HB2 := HB3; clear hc3 HB3)
    | (go_at_call 8; (with_reducible refine (crcAwake _).mono ?_); rintro e w4 ⟨rfl, hb4⟩; have HB4 : Hid (Below w.heap.size w w4) := Lib.hid (Below.trans (by first | exact HB2.out | exact HB2.out.drew) (hb4.mono (Below.size (by first | exact HB2.out | exact HB2.out.drew)))); clear hb4 HB2; have HB2 := HB4; clear HB4))
  all_goals
    go_wp2
    go_ret
    exact ⟨rfl, HB2.out⟩

end Go.Proofs.Ytdpahmojoheljaa.PCrcTables
