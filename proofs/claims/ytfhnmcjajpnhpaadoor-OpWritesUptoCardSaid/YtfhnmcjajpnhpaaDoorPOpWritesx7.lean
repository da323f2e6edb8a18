-- LAID BY gprint.py: a scratch copy of the print, with functions that this session proved by hand among the printed ones
import Derived.Test.YtfhnmcjajpnhpaaDoorPOpWritesx0
import Derived.Test.YtfhnmcjajpnhpaaDoorPOpWritesx1
import Derived.Test.YtfhnmcjajpnhpaaDoorPOpWritesx3
import Derived.Test.YtfhnmcjajpnhpaaDoorPOpWritesx4
import Derived.Test.YtfhnmcjajpnhpaaDoorPOpWritesx5
import Derived.Test.YtfhnmcjajpnhpaaDoorPOpWritesx6
namespace Go.Proofs.YtfhnmcjajpnhpaaDoor.POpWrites
open Go.RowKit Go.Proofs.YtfhnmcjajpnhpaaDoorW.PrintWords Go.Proofs.YtfhnmcjajpnhpaaDoorW.PrintLast Go.Proofs.YtfhnmcjajpnhpaaDoor.Conv Go.Proofs.YtfhnmcjajpnhpaaDoor.Bld Go.Proofs.YtfhnmcjajpnhpaaDoorW.PrintMore
attribute [local go_sem] max2_int min2_int max_two min_two max_three min_three max_four min_four gtr_less   -- for this text's walks alone
set_option linter.unusedVariables false
set_option linter.unusedSimpArgs false

-- GIVEN rounds=0 making=1
/-! ### logbookref31.Word: by hand: texts put one behind the other -/
def logbookref31_Word.f (a0 : ByteArray) : Option (ByteArray) := if a0.size ≤ 40000000000000 then some (strOfNums (wordL (bytesOf a0))) else none
def hexT : ByteArray := ⟨#[48, 49, 50, 51, 52, 53, 54, 55, 56, 57, 65, 66, 67, 68, 69, 70]⟩
theorem hex_cut : ∀ x : Fin 16, hexT.extract x.val (x.val + 1) = strOfNums [digU (x.val : Int)] := by decide +kernel
theorem str_one {a b : List Int} : strOfNums a ++ strOfNums b = strOfNums (a ++ b) := by
  show ByteArray.mk _ ++ ByteArray.mk _ = ByteArray.mk _
  rw [ByteArray.ext_iff]
  simp [ByteArray.data_append]
theorem str_lit37 : (⟨#[37]⟩ : ByteArray) = strOfNums [37] := by decide
theorem str_cut (s : ByteArray) (k : Nat) (h : k < s.size) : s.extract k (k + 1) = strOfNums [bt s k] := by
  have e : (s.extract k (k + 1)).data.toList = (strOfNums [bt s k]).data.toList := by
    rw [ByteArray.data_extract, Array.toList_extract, List.extract_eq_drop_take']
    have h1 : k < s.data.toList.length := by rw [Array.length_toList]; exact h
    rw [List.take_succ_eq_append_getElem h1, List.drop_append_of_le_length (by simp; omega), List.drop_of_length_le (by simp; omega)]
    show [s.data.toList[k]] = [UInt8.ofNat (bt s k).toNat]
    have e2 : bt s (k : Int) = ((s.data.toList.getD k 0).toNat : Int) := by
      rw [← rd_bytesOf]
      unfold rd
      rw [Int.toNat_natCast, List.getD_eq_getElem?_getD (l := bytesOf s), bytesOf_get s k h]
      rfl
    rw [e2, List.getD_eq_getElem?_getD, List.getElem?_eq_getElem h1]
    simp
  exact ByteArray.ext (Array.toList_inj.1 e)
theorem size_str1 (l : List Int) : (strOfNums l).size = l.length := by
  show (l.map _).toArray.size = _
  simp
set_option maxHeartbeats 6400000 in
theorem logbookref31_Word.calls (a0 : ByteArray) (r : ByteArray) (w : World) (h : logbookref31_Word.f a0 = some r) :
    Calls Tryd.prog 37 #[.string a0] w fun e w' => e = .returned (.string r) ∧ Below w.heap.size w w' := by
  unfold logbookref31_Word.f at h
  by_cases hs : a0.size ≤ 40000000000000
  case neg => rw [if_neg hs] at h; cases h
  rw [if_pos hs] at h
  by_cases hz : a0.size = 0
  · have hr : r = strOfNums [37] := by
      rw [← Option.some.inj h]
      unfold wordL
      rw [if_pos (List.eq_nil_of_length_eq_zero (by rw [bytesOf_length]; exact hz))]
    have HR := Lib.hid hr
    have e1 := toList_nil hz
    clear hz h hr
    go_enter Tryd.func37, Tryd.ntmps37
    go_wp2
    go_ret
    exact ⟨by rw [HR.out]; rfl, Below.refl _ _⟩
  have hr : Hid (strOfNums ((bytesOf a0).flatMap encB) = r) := Lib.hid (by
    rw [← Option.some.inj h]
    unfold wordL
    rw [if_neg (fun e => hz (by rw [← bytesOf_length, e]; rfl))])
  obtain ⟨e1, e2⟩ := toList_ne hz
  have hm : a0.size ≤ 9223372036854775807 := Nat.le_trans hs (by decide)
  clear h hz
  go_enter Tryd.func37, Tryd.ntmps37
  go_wp2
  go_loopw [4, 5, 6, 7] (fun o i _ _ wr => ∃ (k : Nat) (out : ByteArray), k ≤ a0.size ∧ i = .int .i64 k ∧ o = .string out ∧ Hid (out = strOfNums (((bytesOf a0).take k).flatMap encB)) ∧ Hid (Below w.heap.size w wr)) (fun _ i _ _ _ => a0.size - (intOf i).toNat)
  case atStart => exact ⟨0, ⟨#[]⟩, Nat.zero_le _, rfl, rfl, Lib.hid rfl, Lib.hid (Below.refl _ _)⟩
  case round =>
    obtain ⟨k, out, hk, rfl, rfl, hout, hbel⟩ := hrel
    have hlen : out.size ≤ 120000000000000 := by
      rw [hout.out, size_str1]
      have h1 := flatMap_len ((bytesOf a0).take k)
      have h2 : ((bytesOf a0).take k).length ≤ a0.size := by
        rw [List.length_take, bytesOf_length]
        omega
      omega
    have s1 : (9223372036854775807 < out.size + 1) = False := eq_false (by omega)
    have s2 : (9223372036854775807 < out.size + 1 + 1) = False := eq_false (by omega)
    have s3 : (9223372036854775807 < out.size + 1 + 1 + 1) = False := eq_false (by omega)
    have s4 : (9223372036854775807 < out.size + 2) = False := eq_false (by omega)
    have s5 : (9223372036854775807 < out.size + 3) = False := eq_false (by omega)
    by_cases hlt : k < a0.size
    · have hb := bt_range a0 k
      have HT := Lib.hid (take_flat a0 k hlt)
      have HX := Lib.hid (str_cut a0 k hlt)
      have hbt : ((a0[k]'hlt).toNat : Int) = bt a0 (k : Int) := bt_at a0 (k : Int) (by simpa using hlt)
      generalize hg : bt a0 k = c at hb HT HX hbt
      clear hg
      cases hp : plainB c
      · have HP := Lib.hid (encB_no hp)
        obtain ⟨x, hx⟩ : ∃ x : Nat, c / 16 = x := ⟨(c / 16).toNat, by omega⟩
        obtain ⟨y, hy⟩ : ∃ y : Nat, c % 16 = y := ⟨(c % 16).toNat, by omega⟩
        have hx16 : x < 16 := by omega
        have hy16 : y < 16 := by omega
        have q1 : Int.tdiv c 16 % 256 = (x : Int) := by rw [Int.tdiv_eq_ediv_of_nonneg hb.1]; omega
        have q2 : Int.tmod c 16 = (y : Int) := by rw [Int.tmod_eq_emod_of_nonneg hb.1]; omega
        have d : c ≤ 32 ∨ (32 < c ∧ 127 ≤ c) ∨ (32 < c ∧ c < 127 ∧ c = 37) := by
          have h1 := hp
          simp [plainB] at h1
          omega
        have hc1 := hex_cut ⟨x, hx16⟩
        have hc2 := hex_cut ⟨y, hy16⟩
        have sl : ∀ z : Nat, z < 16 → ∀ W, (Instr.slice 9 (.string ⟨#[48, 49, 50, 51, 52, 53, 54, 55, 56, 57, 65, 66, 67, 68, 69, 70]⟩) (some (.int .i64 z)) (some (.int .i64 ((z : Int) + 1))) none).run Tryd.prog W = .ok (.string (strOfNums [digU z])) W := by
          intro z hz W
          have g0 : (0 : Int) ≤ z := by omega
          have g1 : (z : Int) ≤ (z : Int) + 1 := by omega
          have g2 : (z : Int) + 1 ≤ hexT.size := by
            show (z : Int) + 1 ≤ 16
            omega
          have := run_slice_string (P := Tryd.prog) (w := W) 9 hexT .i64 .i64 z ((z : Int) + 1) Tryd.underlying9 g0 g1 g2
          have e := hex_cut ⟨z, hz⟩
          rw [show ((z : Int) + 1).toNat = z + 1 by omega, Int.toNat_natCast, e] at this
          exact this
        have wz : ∀ z : Nat, z < 16 → IntKind.i64.wrap ((z : Int) + 1) = (z : Int) + 1 := fun z hz => by rw [i64_w]; unfold wrap64; omega
        have w3 : IntKind.i64.wrap (c / 16 + 1) = c / 16 + 1 := by rw [hx]; exact wz x hx16
        have w4 : IntKind.i64.wrap (c % 16 + 1) = c % 16 + 1 := by rw [hy]; exact wz y hy16
        have sx := sl x hx16
        have sy := sl y hy16
        rw [← hx] at sx
        rw [← hy] at sy
        have zx : (strOfNums [digU (x : Int)]).size = 1 := size_str1 _
        have zy : (strOfNums [digU (y : Int)]).size = 1 := size_str1 _
        rw [← hx] at zx
        rw [← hy] at zy
        generalize hdx : strOfNums [digU (c / 16)] = dx at sx zx
        generalize hdy : strOfNums [digU (c % 16)] = dy at sy zy
        have HDX := Lib.hid hdx
        have HDY := Lib.hid hdy
        have HXX := Lib.hid hx
        have HYY := Lib.hid hy
        have FIN : Hid (out ++ ⟨#[37]⟩ ++ dx ++ dy = strOfNums (((bytesOf a0).take (k + 1)).flatMap encB)) := Lib.hid (by
          rw [HT.out, HP.out, hout.out, str_lit37, ← HDX.out, ← HDY.out, str_one, str_one, str_one]
          congr 1
          simp)
        clear hp sl wz hc1 hc2 hdx hdy hx hy q1 q2 hx16 hy16
        rcases d with d | ⟨d, d'⟩ | ⟨d, d', rfl⟩
        all_goals
          go_wp2
          go_quiet (fail)
          (try go_wp2)
          go_quiet (fail)
          go_wp2
          go_roundw
          case rel => exact ⟨k + 1, _, by omega, by go_num, rfl, Lib.hid (by first | exact FIN.out | (rw [← FIN.out, ← HDX.out, ← HDY.out]; congr 1)), Lib.hid (pw_below_drewN hbel.out _)⟩
          case measure => simp [intOf]; omega
      · have HP := Lib.hid (encB_yes hp)
        have d : 32 < c ∧ c < 127 ∧ c ≠ 37 := by
          have h1 := hp
          simp [plainB] at h1
          omega
        obtain ⟨d1, d2, d3⟩ := d
        have d4 : (c != 37) = true := bne_iff_ne.2 d3
        have D3 := Lib.hid d3
        have hsl : ∀ W, (Instr.slice 9 (.string a0) (some (.int .i64 k)) (some (.int .i64 ((k : Int) + 1))) none).run Tryd.prog W = .ok (.string (a0.extract k (k + 1))) W := by
          intro W
          have g0 : (0 : Int) ≤ k := by omega
          have g1 : (k : Int) ≤ (k : Int) + 1 := by omega
          have g2 : (k : Int) + 1 ≤ a0.size := by omega
          have := run_slice_string (P := Tryd.prog) (w := W) 9 a0 .i64 .i64 k ((k : Int) + 1) Tryd.underlying9 g0 g1 g2
          simpa using this
        rw [HX.out] at hsl
        have hdz : (strOfNums [c]).size = 1 := size_str1 _
        generalize hdc : strOfNums [c] = dc at hsl hdz
        have HDC := Lib.hid hdc
        clear d3 hp hdc
        go_wp2
        go_roundw
        case rel => exact ⟨k + 1, _, by omega, by go_num, rfl, Lib.hid (by rw [HT.out, HP.out, hout.out, ← str_one, HDC.out]), hbel⟩
        case measure => simp [intOf]; omega
    · go_wp2
      go_ret
      refine ⟨ret_str ?_, hbel.out⟩
      rw [← hr.out, hout.out, List.take_of_length_le (by rw [bytesOf_length]; omega)]

/-! ### logbookref31_Line: function 31 -/
def logbookref31_Line.l0 : Nat → List ByteArray → ByteArray → Int → Option (ByteArray)
  | 0, _, _, _ => none
  | k + 1, x0, x3, x4 => if x4 < (x0.length : Int) then (if x4 > 0 then (if x3.size + 1 ≤ 9223372036854775807 then (if 0 ≤ x4 then ((logbookref31_Word.f (rdOf ByteArray.empty x0 x4)).bind fun t195 => (if x3.size + 1 + t195.size ≤ 9223372036854775807 then (logbookref31_Line.l0 k x0 ((x3 ++ (⟨#[32]⟩ : ByteArray)) ++ t195) (wrap64 (x4 + 1))) else (none))) else (none)) else (none)) else (if 0 ≤ x4 then ((logbookref31_Word.f (rdOf ByteArray.empty x0 x4)).bind fun t197 => (if x3.size + t197.size ≤ 9223372036854775807 then (logbookref31_Line.l0 k x0 (x3 ++ t197) (wrap64 (x4 + 1))) else (none))) else (none))) else (some x3)
def logbookref31_Line.f (k : Nat) (l0 : List ByteArray) : Option (ByteArray) := logbookref31_Line.l0 k l0 (⟨#[]⟩ : ByteArray) 0
theorem logbookref31_Line.mono_l : ∀ k, (∀ y0 y1 y2, LeO (logbookref31_Line.l0 k y0 y1 y2) (logbookref31_Line.l0 (k + 1) y0 y1 y2))
  | 0 => fun _ _ _ r h => by simp [logbookref31_Line.l0] at h
  | k + 1 => by
    have ih0 := logbookref31_Line.mono_l k
    · intro y0 y1 y2
      unfold logbookref31_Line.l0
      repeat' first
      | (with_reducible exact ih0 _ _ _)
      | (with_reducible exact LeO.refl _)
      | (with_reducible exact LeO.none _)
      | (with_reducible refine LeO.ite ?_ ?_)
      | (with_reducible refine LeO.bind ?_ (fun _ => ?_))
      | exact ih0 _ _ _
      | exact LeO.none _
      | refine LeO.ite ?_ ?_
      | refine LeO.bind ?_ (fun _ => ?_)
theorem logbookref31_Line.mono : ∀ a0 k, LeO (logbookref31_Line.f k a0) (logbookref31_Line.f (k + 1) a0) := by
  intro a0 k
  have ih0 := logbookref31_Line.mono_l k
  unfold logbookref31_Line.f
  repeat' first
      | (with_reducible exact ih0 _ _ _)
      | (with_reducible exact LeO.refl _)
      | (with_reducible exact LeO.none _)
      | (with_reducible refine LeO.ite ?_ ?_)
      | (with_reducible refine LeO.bind ?_ (fun _ => ?_))
      | exact ih0 _ _ _
      | exact LeO.none _
      | refine LeO.ite ?_ ?_
      | refine LeO.bind ?_ (fun _ => ?_)
set_option maxHeartbeats 8000000 in
set_option maxRecDepth 100000 in
theorem logbookref31_Line.calls (k : Nat) (A0 : Option Addr) (c0 : Nat) (l0 : List ByteArray) (r : ByteArray) (w : World) (hr0 : Kd.C Kd.string w A0 l0.length l0) (hc0 : l0.length ≤ c0) (h : logbookref31_Line.f k l0 = some r) :
    Calls Tryd.prog 31 #[.slice A0 l0.length c0] w fun e w' => e = .returned (.string r) ∧ Below w.heap.size w w' := by
  have HR0 := Aside0.mk hr0
  have HC0 := Aside0.mk hc0
  clear hr0 hc0
  have HB := Aside0.mk (Below.refl w.heap.size w)
  have H : (logbookref31_Line.l0 k l0 (⟨#[]⟩ : ByteArray) 0) = some r := h
  clear h
  have H' := Aside0.mk H
  clear H
  go_enter Tryd.func31, Tryd.ntmps31
  go_wp2
  go_loopg [3, 4] k (fun kq v3 v4 w' => ∃ (x3_1 : ByteArray) (x4_1 : Int), v3 = .string x3_1 ∧ v4 = .int .i64 x4_1 ∧ Aside0 (logbookref31_Line.l0 kq l0 x3_1 x4_1 = some r) ∧ Aside0 (kq ≤ k) ∧ Aside0 (Below w.heap.size w w'))
  case atStart => exact ⟨((⟨#[]⟩ : ByteArray)), (0), (by first | rfl | (simp; done) | (simp [*]; done) | exact isEmpty_bne _), (by first | rfl | (simp; done) | (simp [*]; done) | exact isEmpty_bne _), H', ⟨Nat.le_refl _⟩, ⟨by repeat (first | (with_reducible first | exact HB.out | apply below_alloc | apply pw_below_drewN | apply below_drew1) | exact HB.out)⟩⟩
  case round =>
    clear H'
    obtain ⟨x3_1, x4_1, rfl, rfl, HA, HK1, HB⟩ := hrel
    cases gk with
    | zero => exact absurd HA.out (by simp [logbookref31_Line.l0])
    | succ k1 =>
      have H := HA.out
      clear HA
      simp only [logbookref31_Line.l0] at H
      by_cases c2 : x4_1 < (l0.length : Int)
      · rw [if_pos c2] at H
        have c2b0 : decide (x4_1 < (l0.length : Int)) = true := decide_eq_true c2
        clear c2
        by_cases c3 : x4_1 > 0
        · rw [if_pos c3] at H
          have c3b0 : decide (0 < x4_1) = true := decide_eq_true c3
          clear c3
          by_cases c4 : x3_1.size + 1 ≤ 9223372036854775807
          · rw [if_pos c4] at H
            have c4b0 := eq_true c4
            have c4b1 : decide (x3_1.size + 1 ≤ 9223372036854775807) = true := decide_eq_true c4
            try have c4b2 : (9223372036854775807 < x3_1.size + 1) = False := eq_false (Nat.not_lt.2 c4)
            by_cases c5 : 0 ≤ x4_1
            · rw [if_pos c5] at H
              have c5b0 : decide (0 ≤ x4_1) = true := decide_eq_true c5
              clear c5
              replace H := Option.bind_eq_some_iff.mp H
              obtain ⟨t195, A60, H⟩ := H
              replace H : (if x3_1.size + 1 + t195.size ≤ 9223372036854775807 then (logbookref31_Line.l0 k1 l0 ((x3_1 ++ (⟨#[32]⟩ : ByteArray)) ++ t195) (wrap64 (x4_1 + 1))) else (none)) = some r := H
              have A6 := Aside0.mk A60
              clear A60
              by_cases c7 : x3_1.size + 1 + t195.size ≤ 9223372036854775807
              · rw [if_pos c7] at H
                have c7b0 := eq_true c7
                have c7b1 : decide (x3_1.size + 1 + t195.size ≤ 9223372036854775807) = true := decide_eq_true c7
                try have c7b2 : (9223372036854775807 < x3_1.size + 1 + t195.size) = False := eq_false (Nat.not_lt.2 c7)
                have H' := Aside0.mk H
                clear H
                have p194 : 0 ≤ (x4_1 : Int) := of_decide_eq_true (by first | (with_reducible assumption) | assumption)
                have q194 : x4_1 < (l0.length : Int) := of_decide_eq_true (by first | (with_reducible assumption) | assumption)
                obtain ⟨ad194, e194, hx194_0⟩ := Kd.at_string HR0.out x4_1 p194 q194
                cases e194
                replace hx194_0 := (HB.out.cell (World.block_lt_of_cell? w _ hx194_0)).trans hx194_0
                replace p194 := eq_true p194
                replace q194 := eq_true q194
                go_wp2_with (first | ((with_reducible refine gate_callee (f := 37) rfl ?_); refine goesL_ (some 20) rfl rfl Tryd.func37 (by kernel_rfl) rfl #[.string (rdOf ByteArray.empty l0 x4_1)] rfl (by (try simp only [List.map_toArray, List.map_cons, List.map_nil]); first | done | rfl | (simp only [List.length_drop, List.length_take]; rfl)) ?_; (with_reducible refine (logbookref31_Word.calls (rdOf ByteArray.empty l0 x4_1) t195 _ A6.out).mono ?_); rintro e w8 ⟨rfl, hb⟩; refine ⟨_, rfl, ?_⟩; have n0_ := Aside0.mk (below_step (by repeat (first | (with_reducible first | exact HB.out | apply below_alloc | apply pw_below_drewN | apply below_drew1) | exact HB.out)) hb); clear HB; have HB := n0_; clear n0_; (try clear hb); (try clear hb2); (try clear hk); (try clear hi)))
                go_roundg k1
                case measure => have := HK1.out; omega
                case rel => exact ⟨((x3_1 ++ (⟨#[32]⟩ : ByteArray)) ++ t195), (wrap64 (x4_1 + 1)), (by first | rfl | (simp; done) | (simp [*]; done) | exact isEmpty_bne _), (by first | rfl | (simp; done) | (simp [*]; done) | exact isEmpty_bne _), H', ⟨by have := HK1.out; omega⟩, ⟨by repeat (first | (with_reducible first | exact HB.out | apply below_alloc | apply pw_below_drewN | apply below_drew1) | exact HB.out)⟩⟩
              · rw [if_neg c7] at H
                exact absurd H (by simp)
            · rw [if_neg c5] at H
              exact absurd H (by simp)
          · rw [if_neg c4] at H
            exact absurd H (by simp)
        · rw [if_neg c3] at H
          have c3b0 : decide (0 < x4_1) = false := decide_eq_false c3
          clear c3
          by_cases c9 : 0 ≤ x4_1
          · rw [if_pos c9] at H
            have c9b0 : decide (0 ≤ x4_1) = true := decide_eq_true c9
            clear c9
            replace H := Option.bind_eq_some_iff.mp H
            obtain ⟨t197, A100, H⟩ := H
            replace H : (if x3_1.size + t197.size ≤ 9223372036854775807 then (logbookref31_Line.l0 k1 l0 (x3_1 ++ t197) (wrap64 (x4_1 + 1))) else (none)) = some r := H
            have A10 := Aside0.mk A100
            clear A100
            by_cases c11 : x3_1.size + t197.size ≤ 9223372036854775807
            · rw [if_pos c11] at H
              have c11b0 := eq_true c11
              have c11b1 : decide (x3_1.size + t197.size ≤ 9223372036854775807) = true := decide_eq_true c11
              try have c11b2 : (9223372036854775807 < x3_1.size + t197.size) = False := eq_false (Nat.not_lt.2 c11)
              have H' := Aside0.mk H
              clear H
              have p196 : 0 ≤ (x4_1 : Int) := of_decide_eq_true (by first | (with_reducible assumption) | assumption)
              have q196 : x4_1 < (l0.length : Int) := of_decide_eq_true (by first | (with_reducible assumption) | assumption)
              obtain ⟨ad196, e196, hx196_0⟩ := Kd.at_string HR0.out x4_1 p196 q196
              cases e196
              replace hx196_0 := (HB.out.cell (World.block_lt_of_cell? w _ hx196_0)).trans hx196_0
              replace p196 := eq_true p196
              replace q196 := eq_true q196
              go_wp2_with (first | ((with_reducible refine gate_callee (f := 37) rfl ?_); refine goesL_ (some 20) rfl rfl Tryd.func37 (by kernel_rfl) rfl #[.string (rdOf ByteArray.empty l0 x4_1)] rfl (by (try simp only [List.map_toArray, List.map_cons, List.map_nil]); first | done | rfl | (simp only [List.length_drop, List.length_take]; rfl)) ?_; (with_reducible refine (logbookref31_Word.calls (rdOf ByteArray.empty l0 x4_1) t197 _ A10.out).mono ?_); rintro e w12 ⟨rfl, hb⟩; refine ⟨_, rfl, ?_⟩; have n0_ := Aside0.mk (below_step (by repeat (first | (with_reducible first | exact HB.out | apply below_alloc | apply pw_below_drewN | apply below_drew1) | exact HB.out)) hb); clear HB; have HB := n0_; clear n0_; (try clear hb); (try clear hb2); (try clear hk); (try clear hi)))
              go_roundg k1
              case measure => have := HK1.out; omega
              case rel => exact ⟨(x3_1 ++ t197), (wrap64 (x4_1 + 1)), (by first | rfl | (simp; done) | (simp [*]; done) | exact isEmpty_bne _), (by first | rfl | (simp; done) | (simp [*]; done) | exact isEmpty_bne _), H', ⟨by have := HK1.out; omega⟩, ⟨by repeat (first | (with_reducible first | exact HB.out | apply below_alloc | apply pw_below_drewN | apply below_drew1) | exact HB.out)⟩⟩
            · rw [if_neg c11] at H
              exact absurd H (by simp)
          · rw [if_neg c9] at H
            exact absurd H (by simp)
      · rw [if_neg c2] at H
        have c2b0 : decide (x4_1 < (l0.length : Int)) = false := decide_eq_false c2
        clear c2
        obtain rfl := Option.some.inj H
        go_wp2
        go_ret
        exact ⟨by first | rfl | (simp [errW_none, errW_some] <;> rfl) | (simp [*, errW_none, errW_some] <;> rfl), by repeat (first | (with_reducible first | exact HB.out | apply below_alloc | apply pw_below_drewN | apply below_drew1) | exact HB.out)⟩

-- GIVEN rounds=1 making=1 needs=logbook/logbookref46.Rows,logbook/logbookref32.Decimal,logbook/logbookref31.Line
/-! ### the reference's line: by hand: a region that draws its order and holds a call that makes rows -/
def decsF (k : Nat) : List Int → Option (List ByteArray)
  | [] => some []
  | n :: r => (logbookref32_Decimal.f k n).bind fun s => (decsF k r).bind fun q => some (s :: q)
theorem decsF_get (k : Nat) : ∀ (l : List Int) (ds : List ByteArray), decsF k l = some ds → ds.length = l.length ∧ ∀ i, i < l.length → logbookref32_Decimal.f k (l.getD i 0) = some (ds.getD i ByteArray.empty)
  | [], ds, h => by
    rw [decsF] at h
    rw [← Option.some.inj h]
    exact ⟨rfl, fun i hi => absurd hi (by simp)⟩
  | n :: r, ds, h => by
    rw [decsF] at h
    obtain ⟨s, h1, h⟩ := Option.bind_eq_some_iff.1 h
    obtain ⟨q, h2, h⟩ := Option.bind_eq_some_iff.1 h
    obtain rfl := Option.some.inj h
    obtain ⟨i1, i2⟩ := decsF_get k r q h2
    refine ⟨by simp [i1], fun i hi => ?_⟩
    match i, hi with
    | 0, _ => exact h1
    | i + 1, hi => exact i2 i (by simpa using hi)
theorem decsF_mono : ∀ l k, LeO (decsF k l) (decsF (k + 1) l)
  | [], k => LeO.refl _
  | n :: r, k => LeO.bind (logbookref32_Decimal.mono _ _) (fun _ => LeO.bind (decsF_mono r k) (fun _ => LeO.refl _))
def logbookref46_Line.f (k : Nat) (a0_0 : Int) (l0_1 : List Int) (l0_2 : List ByteArray) : Option (ByteArray) :=
  if 1 ≤ a0_0 ∧ a0_0 ≤ 33 ∧ l0_1.length + l0_2.length ≤ 1000000 then
    (logbookref46_Rows.f).bind fun rows => (decsF k l0_1).bind fun ds => logbookref31_Line.f k ([(rd_T39 rows (a0_0 - 1)).f0] ++ ds ++ l0_2)
  else none
theorem logbookref46_Line.mono : ∀ a0 a1 a2 k, LeO (logbookref46_Line.f k a0 a1 a2) (logbookref46_Line.f (k + 1) a0 a1 a2) := by
  intro a0 a1 a2 k
  unfold logbookref46_Line.f
  repeat' first
    | (with_reducible exact decsF_mono _ _)
    | (with_reducible exact logbookref31_Line.mono _ _)
    | (with_reducible exact LeO.refl _)
    | (with_reducible exact LeO.none _)
    | (with_reducible refine LeO.ite ?_ ?_)
    | (with_reducible refine LeO.bind ?_ (fun _ => ?_))
theorem line_info : (Tryd.prog.info? 9).map (fun i => (i.zero, i.size, i.bytes)) = some (some (.string ⟨#[]⟩), 1, 16) := by kernel_rfl
set_option maxHeartbeats 6400000 in
set_option maxRecDepth 100000 in
theorem logbookref46_Line.calls (k : Nat) (a0_0 : Int) (A0_1 : Option Addr) (c0_1 : Nat) (l0_1 : List Int) (A0_2 : Option Addr) (c0_2 : Nat) (l0_2 : List ByteArray) (r : ByteArray) (w : World) (hr0_1 : Kd.C (Kd.int .u64) w A0_1 l0_1.length l0_1) (hc0_1 : l0_1.length ≤ c0_1) (hr0_2 : Kd.C Kd.string w A0_2 l0_2.length l0_2) (hc0_2 : l0_2.length ≤ c0_2) (h : logbookref46_Line.f k a0_0 l0_1 l0_2 = some r) :
    Calls Tryd.prog 18 #[.agg #[.int .i64 a0_0, .slice A0_1 l0_1.length c0_1, .slice A0_2 l0_2.length c0_2]] w fun e w' => e = .returned (.string r) ∧ Below w.heap.size w w' := by
  unfold logbookref46_Line.f at h
  by_cases hk : 1 ≤ a0_0 ∧ a0_0 ≤ 33 ∧ l0_1.length + l0_2.length ≤ 1000000
  case neg => rw [if_neg hk] at h; cases h
  rw [if_pos hk] at h
  obtain ⟨rows, hrows, h⟩ := Option.bind_eq_some_iff.1 h
  obtain ⟨ds, hds, h⟩ := Option.bind_eq_some_iff.1 h
  obtain ⟨hk1, hk2, hk3⟩ := hk
  have hrl : rows.length = 33 := by
    rw [← Option.some.inj hrows]
    rfl
  obtain ⟨m, rfl⟩ : ∃ m : Nat, a0_0 = (m : Int) + 1 := ⟨(a0_0 - 1).toNat, by omega⟩
  obtain ⟨nm, hnm⟩ : ∃ nm, nm = (rd_T39 rows (m : Int)).f0 := ⟨_, rfl⟩
  rw [show (m : Int) + 1 - 1 = (m : Int) by omega, ← hnm] at h
  have HROWS := Lib.hid hrows
  have HDS := Lib.hid hds
  have HL := Lib.hid h
  have HRL := Lib.hid hrl
  have HNM := Lib.hid hnm
  have HR1 := Lib.hid hr0_1
  have HR2 := Lib.hid hr0_2
  have hu := Tryd.underlying30
  have hu2 := Tryd.underlying39
  have HB := Lib.hid ((Below.refl w.heap.size w).alloc (Nat.le_refl _) (.cells #[.int .i64 ((m : Int) + 1), .slice A0_1 l0_1.length c0_1, .slice A0_2 l0_2.length c0_2] 30))
  have HO := Lib.hid (heap_alloc_new w (.cells #[.int .i64 ((m : Int) + 1), .slice A0_1 l0_1.length c0_1, .slice A0_2 l0_2.length c0_2] 30))
  clear h hds hrows hrl hnm hr0_1 hr0_2
  have hm1 : (m : Int) < (rows.length : Int) := by rw [HRL.out]; omega
  have hm0 : (0 : Int) ≤ (m : Int) := by omega
  have hw1 : IntKind.i64.wrap ((m : Int) + 1 - 1) = (m : Int) := by rw [i64_w]; unfold wrap64; omega
  have hw2 : IntKind.i64.wrap (m : Int) = (m : Int) := by rw [i64_w]; unfold wrap64; omega
  go_enter Tryd.func18, Tryd.ntmps18
  go_upto_region 1 with fail
  go_cut [3] from 5 to 13 (fun v wx => Hid (Kd.R Kd.string 9 wx w.heap.size (fun _ => True) v [nm]) ∧ Hid (wx.heap[w.heap.size]? = some (.cells #[.int .i64 ((m : Int) + 1), .slice A0_1 l0_1.length c0_1, .slice A0_2 l0_2.length c0_2] 30 (0, 0))) ∧ Hid (Below w.heap.size w wx))
  case first =>
    go_region_with (go_at_call 10; (with_reducible refine (logbookref46_Rows.calls rows _ HROWS.out).mono ?_); rintro e w2 ⟨v0, rfl, hR, hb⟩; obtain ⟨g, c0, rfl, hg1, hg2, _⟩ := Kd.R_form hR (by rw [HRL.out]; omega); obtain ⟨ad, he, hx0, _, _, _⟩ := at_T39 (Kd.R_reads' hR).2.2 (m : Int) hm0 hm1; injection he with he; subst he; rw [← HNM.out, Int.toNat_natCast] at hx0; have hx1 : w2.cell? ⟨g, m * 4, none⟩ = some (.string nm) := (by rw [← hx0]; congr 1; unfold Addr.add; by_cases hz : m * 4 = 0 <;> simp [hz]); clear hx0; have hO2 := blk_below (blk_drew HO.out) hb; have h0c := blk_cell hO2 0; simp at h0c; have HO2 := Lib.hid hO2; have HB2 := Lib.hid (below_then HB.out.drew (by simp) hb); clear hR hb hO2)
    all_goals
      go_wp2_with fail
      go_meet
      exact ⟨Lib.hid (Kd.R_of_own (World.ownsRow_lit _ #[.string nm] 1 HB2.out.size (by decide) rfl) (fun _ _ => trivial)), Lib.hid (blk_alloc HO2.out _), Lib.hid (HB2.out.alloc HB2.out.size _)⟩
  case rest =>
    obtain ⟨hv, hO, hB⟩ := hcut
    have HDL := Lib.hid (decsF_get k l0_1 ds HDS.out)
    clear HB HO hm1 hm0 hw1 hw2 hu2
    go_wp2
    go_loopw [3, 4] (fun v i wr => ∃ q : Nat, q ≤ l0_1.length ∧ i = .int .i64 q ∧ Hid (Kd.R Kd.string 9 wr w.heap.size (fun _ => True) v ([nm] ++ ds.take q)) ∧ Hid (wr.heap[w.heap.size]? = some (.cells #[.int .i64 ((m : Int) + 1), .slice A0_1 l0_1.length c0_1, .slice A0_2 l0_2.length c0_2] 30 (0, 0))) ∧ Hid (Below w.heap.size w wr)) (fun _ i _ => l0_1.length - (intOf i).toNat)
    case atStart => exact ⟨0, Nat.zero_le _, rfl, Lib.hid (by rw [List.take_zero, List.append_nil]; exact hv.out), hO, hB⟩
    case round =>
      obtain ⟨q, hq, rfl, hvr, hOr, hBr⟩ := hrel
      have h1c := blk_cell hOr.out 1
      have h2c := blk_cell hOr.out 2
      simp at h1c h2c
      by_cases hlt : q < l0_1.length
      · obtain ⟨ad, rfl, hc⟩ := Kd.at_int (Kd.C_below HR1.out hBr.out) (q : Int) (by omega) (by omega)
        rw [Int.toNat_natCast] at hc
        have hdec : logbookref32_Decimal.f k (rd l0_1 (q : Int)) = some (ds.getD q ByteArray.empty) := HDL.out.2 q hlt
        have htk : ds.take (q + 1) = ds.take q ++ [ds.getD q ByteArray.empty] := by
          have hl : q < ds.length := by rw [HDL.out.1]; exact hlt
          rw [List.take_succ_eq_append_getElem hl, List.getD_eq_getElem?_getD, List.getElem?_eq_getElem hl]
          rfl
        have hL6 : (([nm] ++ ds.take q).length + 1) * 16 ≤ 140737488355328 := by
          rw [List.length_append, List.length_take]
          simp only [List.length_cons, List.length_nil]
          omega
        generalize rd l0_1 (q : Int) = nq at hc hdec
        generalize ds.getD q ByteArray.empty = sq at hdec htk
        have HD := Lib.hid hdec
        have HTK := Lib.hid htk
        have HL6 := Lib.hid hL6
        clear hdec htk hL6
        go_wp2_with (first
          | (go_at_call 30; (with_reducible refine (logbookref32_Decimal.calls k nq sq _ HD.out).mono ?_); rintro e w6 ⟨rfl, hb6⟩; have HB6 : Hid (Below w.heap.size w w6) := Lib.hid (hBr.out.trans (hb6.mono hBr.out.size)); have HO6 := Lib.hid (blk_below hOr.out hb6); have HV6 := Lib.hid (Kd.R_below hvr.out hb6); have hs6 := HB6.out.size; clear hb6 hc)
          | (at_builtin; refine Kd.R_append Kd.string (w0 := w) w.heap.size rfl (.tmp 20) (.tmp 27) 24 9 (.string ⟨#[]⟩) 16 rfl Tryd.underlying24 line_info rfl (by decide) (by omega) _ ([nm] ++ ds.take q) sq [.string sq] (fun _ => True) (fun _ => False) rfl rfl rfl (fun _ hk => hk.elim) (fun _ _ => trivial) HV6.out HB6.out hs6 HL6.out ?_; intro v1 w7 hv1 hb7 hg7 _; have HV7 := Lib.hid hv1; have HB7 := Lib.hid hb7; have HO7 := Lib.hid (blk_grown HO6.out hg7 (Kd.R_ne HV6.out HO6.out (by decide))); clear hv1 hb7 hg7))
        go_roundw
        case rel => exact ⟨q + 1, by omega, by go_num, Lib.hid (by rw [HTK.out, ← List.append_assoc]; exact HV7.out), HO7, HB7⟩
        case measure => simp [intOf]; omega
      · have hqe : ds.take q = ds := List.take_of_length_le (by rw [HDL.out.1]; omega)
        rw [hqe] at hvr
        have hR2 := Kd.C_below HR2.out hBr.out
        have hL := HL.out
        have hL6 : (([nm] ++ ds).length + l0_2.length) * 16 ≤ 140737488355328 := by
          rw [List.length_append, HDL.out.1]
          simp only [List.length_cons, List.length_nil]
          omega
        generalize [nm] ++ ds = xs at hvr hL hL6
        obtain ⟨ys, hys⟩ : ∃ ys, ys = xs ++ l0_2 := ⟨_, rfl⟩
        rw [← hys] at hL
        have HYS := Lib.hid hys
        clear hys
        have HL1 := Lib.hid hL
        have HL6 := Lib.hid hL6
        have HR3 := Lib.hid hR2
        have hsr := hBr.out.size
        clear hL hL6 hR2 hqe
        go_wp2_with (first
          | (at_builtin; refine Kd.R_append_row Value.string ByteArray.empty (w0 := w) w.heap.size rfl (.tmp 29) (.tmp 31) 24 9 (.string ⟨#[]⟩) 16 rfl Tryd.underlying24 line_info rfl (by decide) _ xs l0_2 A0_2 l0_2.length c0_2 (fun _ => True) rfl rfl (fun _ _ => trivial) hvr.out HR3.out hBr.out hsr HL6.out ?_; intro v1 w7 hv1 hb7 hg7 _; rw [← HYS.out] at hv1; obtain ⟨A7, c7, rfl⟩ := Kd.R_slice hv1; have HV7 : Hid (Kd.R Kd.string 9 w7 w.heap.size (fun _ => True) (.slice A7 ys.length c7) ys) := Lib.hid hv1; have HB7 := Lib.hid hb7; clear hv1 hb7 hg7)
          | (go_at_call 31; (with_reducible refine (logbookref31_Line.calls k A7 c7 ys r _ (Kd.R_reads' HV7.out).2.2 (Kd.R_reads' HV7.out).2.1 HL1.out).mono ?_); rintro e w8 ⟨rfl, hb8⟩; have HB8 : Hid (Below w.heap.size w w8) := Lib.hid (HB7.out.trans (hb8.mono HB7.out.size)); clear hb8))
        go_ret
        exact ⟨rfl, HB8.out⟩

-- GIVEN rounds=1 making=1 needs=logbook/logbooklaw46.light,logbook/logbooklaw46.awake,(logbook/op.Op).Right,logbook/logbookref46.Right,(logbook/op.Op).Line,logbook/op.Parse,logbook/logbookref46.Line,logbook/logbooklaw46.same
/-! ### OpWrites: by hand: structs handed from call to call -/
def logbooklaw46_OpWrites.f (k : Nat) (a0_0 : Int) (l0_1 : List Int) (l0_2 : List ByteArray) : Option Bool :=
  (logbooklaw46_light.f k a0_0 l0_1 l0_2).bind fun lt => if lt = false then logbooklaw46_awake.f k else
  (op_Op_Right.f k a0_0 l0_1 l0_2).bind fun rx => (logbookref46_Right.f k a0_0 l0_1 l0_2).bind fun rr => if rx = rr then
    if rr = false then logbooklaw46_awake.f k else
    (op_Op_Line.f k a0_0 l0_1 l0_2).bind fun s => (op_Parse.f k s).bind fun y => (logbookref46_Line.f k a0_0 l0_1 l0_2).bind fun t =>
    (logbooklaw46_same.f k y.1 y.2.1 y.2.2.1 a0_0 l0_1 l0_2).bind fun sm => if s.toList = t.toList ∧ y.2.2.2 = 0 ∧ sm = true then logbooklaw46_awake.f k else none
  else none
set_option maxHeartbeats 1600000 in
theorem opTo.calls (x : Int) (A1 : Option Addr) (n1 c1 : Nat) (A2 : Option Addr) (n2 c2 : Nat) (w : World) :
    Calls Tryd.prog 14 #[.agg #[.int .i64 x, .slice A1 n1 c1, .slice A2 n2 c2]] w fun e w' => e = .returned (.agg #[.int .i64 x, .slice A1 n1 c1, .slice A2 n2 c2]) ∧ Below w.heap.size w w' := by
  have hu := Tryd.underlying26
  have hu2 := Tryd.underlying30
  have HB := Lib.hid (((Below.refl w.heap.size w).alloc (Nat.le_refl _) (.cells #[.int .i64 x, .slice A1 n1 c1, .slice A2 n2 c2] 30)).alloc (by simp) (.cells #[.int .i64 0, .slice none 0 0, .slice none 0 0] 26))
  have hn := heap_alloc_new (w.alloc (.cells #[.int .i64 x, .slice A1 n1 c1, .slice A2 n2 c2] 30)) (.cells #[.int .i64 0, .slice none 0 0, .slice none 0 0] 26)
  rw [show (w.alloc (.cells #[.int .i64 x, .slice A1 n1 c1, .slice A2 n2 c2] 30)).heap.size = w.heap.size + 1 by simp] at hn
  have HO := Lib.hid hn
  clear hn
  go_enter Tryd.func14, Tryd.ntmps14
  go_wp2_with (first
    | (refine store_ev rfl 26 _ _ rfl rfl (w.heap.size + 1) #[.int .i64 x, .slice A1 n1 c1, .slice A2 n2 c2] rfl rfl 26 _ HO.out (by kernel_rfl) (by kernel_rfl) (by kernel_rfl) ?_; intro w4 hb4 hp4; have HB4 := Lib.hid hb4; have HP4 := Lib.hid hp4; clear hb4 hp4))
  refine bodyPost_ret (results_cell_row rfl _ _ (w.heap.size + 1) 26 #[.int .i64 x, .slice A1 n1 c1, .slice A2 n2 c2] (0, 0) _ rfl HB4.out hu rfl (by kernel_rfl)) rfl ?_
  exact ⟨rfl, HP4.out.below HB.out (by omega)⟩
set_option maxHeartbeats 12800000 in
set_option maxRecDepth 100000 in
theorem logbooklaw46_OpWrites.calls (k : Nat) (a0_0 : Int) (A0_1 : Option Addr) (c0_1 : Nat) (l0_1 : List Int) (A0_2 : Option Addr) (c0_2 : Nat) (l0_2 : List ByteArray) (r : Bool) (w : World) (hr0_1 : Kd.C (Kd.int .u64) w A0_1 l0_1.length l0_1) (hc0_1 : l0_1.length ≤ c0_1) (hr0_2 : Kd.C Kd.string w A0_2 l0_2.length l0_2) (hc0_2 : l0_2.length ≤ c0_2) (h : logbooklaw46_OpWrites.f k a0_0 l0_1 l0_2 = some r) :
    Calls Tryd.prog 5 #[.agg #[.int .i64 a0_0, .slice A0_1 l0_1.length c0_1, .slice A0_2 l0_2.length c0_2]] w fun e w' => e = .returned (.bool r) ∧ Below w.heap.size w w' := by
  unfold logbooklaw46_OpWrites.f at h
  obtain ⟨lt, h1, h2⟩ := Option.bind_eq_some_iff.1 h
  clear h
  have hu := Tryd.underlying26
  have hu2 := Tryd.underlying30
  have HB := Lib.hid ((Below.refl w.heap.size w).alloc (Nat.le_refl _) (.cells #[.int .i64 a0_0, .slice A0_1 l0_1.length c0_1, .slice A0_2 l0_2.length c0_2] 30))
  have HO := Lib.hid (heap_alloc_new w (.cells #[.int .i64 a0_0, .slice A0_1 l0_1.length c0_1, .slice A0_2 l0_2.length c0_2] 30))
  have HLT : Hid (∀ W, Below w.heap.size w W → Calls Tryd.prog 13 #[.agg #[.int .i64 a0_0, .slice A0_1 l0_1.length c0_1, .slice A0_2 l0_2.length c0_2]] W fun e w' => e = .returned (.bool lt) ∧ Below W.heap.size W w') :=
    Lib.hid (fun W hb => (logbooklaw46_light.calls k a0_0 A0_1 c0_1 l0_1 A0_2 c0_2 l0_2 lt W (Kd.C_below hr0_1 hb) hc0_1 (Kd.C_below hr0_2 hb) hc0_2 h1).mono (fun e w' h => ⟨h.1, h.2⟩))
  clear h1
  cases lt
  · rw [if_pos rfl] at h2
    have HA := Lib.hid h2
    clear h2
    go_enter Tryd.func5, Tryd.ntmps5
    go_wp2_with (first
      | (go_at_call 13; (with_reducible refine (HLT.out _ HB.out).mono ?_); rintro e w2 ⟨rfl, hb2⟩; have HB2 : Hid (Below w.heap.size w w2) := Lib.hid (HB.out.trans (hb2.mono HB.out.size)); clear hb2)
      | (go_at_call 6; (with_reducible refine (logbooklaw46_awake.calls k r _ HA.out).mono ?_); rintro e w3 ⟨rfl, hb3⟩))
    go_ret
    exact ⟨rfl, HB2.out.trans (hb3.mono HB2.out.size)⟩
  rw [if_neg (by decide)] at h2
  obtain ⟨rx, h1, h3⟩ := Option.bind_eq_some_iff.1 h2
  clear h2
  obtain ⟨rr, h2, h4⟩ := Option.bind_eq_some_iff.1 h3
  clear h3
  by_cases hx : rx = rr
  case neg => rw [if_neg hx] at h4; cases h4
  subst hx
  rw [if_pos rfl] at h4
  have HRX : Hid (∀ W, Below w.heap.size w W → Calls Tryd.prog 15 #[.agg #[.int .i64 a0_0, .slice A0_1 l0_1.length c0_1, .slice A0_2 l0_2.length c0_2]] W fun e w' => e = .returned (.bool rx) ∧ Below W.heap.size W w') :=
    Lib.hid (fun W hb => op_Op_Right.calls k a0_0 A0_1 c0_1 l0_1 A0_2 c0_2 l0_2 rx W (Kd.C_below hr0_1 hb) hc0_1 (Kd.C_below hr0_2 hb) hc0_2 h1)
  have HRR : Hid (∀ W, Below w.heap.size w W → Calls Tryd.prog 16 #[.agg #[.int .i64 a0_0, .slice A0_1 l0_1.length c0_1, .slice A0_2 l0_2.length c0_2]] W fun e w' => e = .returned (.bool rx) ∧ Below W.heap.size W w') :=
    Lib.hid (fun W hb => logbookref46_Right.calls k a0_0 A0_1 c0_1 l0_1 A0_2 c0_2 l0_2 rx W (Kd.C_below hr0_1 hb) hc0_1 (Kd.C_below hr0_2 hb) hc0_2 h2)
  clear h1 h2
  cases rx
  · rw [if_pos rfl] at h4
    have HA := Lib.hid h4
    clear h4 hr0_1 hr0_2
    go_enter Tryd.func5, Tryd.ntmps5
    go_upto_region 4 with (first
      | (go_at_call 13; (with_reducible refine (HLT.out _ HB.out).mono ?_); rintro e w2 ⟨rfl, hb2⟩; have HB2 : Hid (Below w.heap.size w w2) := Lib.hid (HB.out.trans (hb2.mono HB.out.size)); have HO2 := Lib.hid (blk_below HO.out hb2); have a0 := blk_cell HO2.out 0; have a1 := blk_cell HO2.out 1; have a2 := blk_cell HO2.out 2; simp at a0 a1 a2; clear hb2)
      | (go_at_call 14; (with_reducible refine (opTo.calls a0_0 A0_1 l0_1.length c0_1 A0_2 l0_2.length c0_2 _).mono ?_); rintro e w3 ⟨rfl, hb3⟩; have HB3 : Hid (Below w.heap.size w w3) := Lib.hid (HB2.out.trans (hb3.mono HB2.out.size)); have HO3 := Lib.hid (blk_below HO2.out hb3); have HX3 := Lib.hid (heap_alloc_new w3 (.cells #[.int .i64 0, .slice none 0 0, .slice none 0 0] 26)); clear hb3 a0 a1 a2)
      | (refine store_ev rfl 26 _ _ rfl rfl w3.heap.size #[.int .i64 a0_0, .slice A0_1 l0_1.length c0_1, .slice A0_2 l0_2.length c0_2] rfl rfl 26 _ HX3.out (by kernel_rfl) (by kernel_rfl) (by kernel_rfl) ?_; intro w4 hb4 hp4; have HKB := Lib.hid hb4; have HW : Hid (Below w.heap.size w w4) := Lib.hid (hp4.below (HB3.out.alloc HB3.out.size _) HB3.out.size); have HKA : Hid (w4.heap[w.heap.size]? = some (.cells #[.int .i64 a0_0, .slice A0_1 l0_1.length c0_1, .slice A0_2 l0_2.length c0_2] 30 (0, 0))) := Lib.hid (hp4.blk (blk_alloc HO3.out _) (by have := HB3.out.size; have := (Array.getElem?_eq_some_iff.1 HO3.out).1; omega)); clear hb4 hp4))
    generalize w3.heap.size = g3 at HKB ⊢
    have a0 := blk_cell HKA.out 0
    have a1 := blk_cell HKA.out 1
    have a2 := blk_cell HKA.out 2
    have b0 := blk_cell HKB.out 0
    have b1' := blk_cell HKB.out 1
    have b2' := blk_cell HKB.out 2
    simp at a0 a1 a2 b0 b1' b2'
    go_cut [16] from 12 to 17 (fun v wx => v = .bool false ∧ Hid (Below w.heap.size w wx) ∧ Hid (wx.heap[w.heap.size]? = some (.cells #[.int .i64 a0_0, .slice A0_1 l0_1.length c0_1, .slice A0_2 l0_2.length c0_2] 30 (0, 0))) ∧ Hid (wx.heap[g3]? = some (.cells #[.int .i64 a0_0, .slice A0_1 l0_1.length c0_1, .slice A0_2 l0_2.length c0_2] 26 (0, 0))))
    case first =>
      go_region_with (first
        | (go_at_call 15; (with_reducible refine (HRX.out _ (by first | exact HW.out | exact HW.out.drew)).mono ?_); rintro e w5 ⟨rfl, hb5⟩; have HW5 : Hid (Below w.heap.size w w5) := Lib.hid (Below.trans (by first | exact HW.out | exact HW.out.drew) (hb5.mono (Below.size (by first | exact HW.out | exact HW.out.drew)))); have HKA5 := Lib.hid (blk_below (by first | exact HKA.out | exact blk_drew HKA.out) hb5); have HKB5 := Lib.hid (blk_below (by first | exact HKB.out | exact blk_drew HKB.out) hb5); clear HW HKA HKB; have HW := HW5; have HKA := HKA5; have HKB := HKB5; clear HW5 HKA5 HKB5; clear a0 a1 a2 b0 b1' b2'; have a0 := blk_cell HKA.out 0; have a1 := blk_cell HKA.out 1; have a2 := blk_cell HKA.out 2; have b0 := blk_cell HKB.out 0; have b1' := blk_cell HKB.out 1; have b2' := blk_cell HKB.out 2; simp at a0 a1 a2 b0 b1' b2'; clear hb5)
        | (go_at_call 16; (with_reducible refine (HRR.out _ (by first | exact HW.out | exact HW.out.drew)).mono ?_); rintro e w6 ⟨rfl, hb6⟩; have HW6 : Hid (Below w.heap.size w w6) := Lib.hid (Below.trans (by first | exact HW.out | exact HW.out.drew) (hb6.mono (Below.size (by first | exact HW.out | exact HW.out.drew)))); have HKA6 := Lib.hid (blk_below (by first | exact HKA.out | exact blk_drew HKA.out) hb6); have HKB6 := Lib.hid (blk_below (by first | exact HKB.out | exact blk_drew HKB.out) hb6); clear HW HKA HKB; have HW := HW6; have HKA := HKA6; have HKB := HKB6; clear HW6 HKA6 HKB6; clear a0 a1 a2 b0 b1' b2'; have a0 := blk_cell HKA.out 0; have a1 := blk_cell HKA.out 1; have a2 := blk_cell HKA.out 2; have b0 := blk_cell HKB.out 0; have b1' := blk_cell HKB.out 1; have b2' := blk_cell HKB.out 2; simp at a0 a1 a2 b0 b1' b2'; clear hb6))
      all_goals
        go_wp2_with fail
        go_meet
        exact ⟨rfl, HW, HKA, HKB⟩
    case rest =>
      obtain ⟨rfl, hw, hka, hkb⟩ := hcut
      have a0 := blk_cell hka.out 0
      have a1 := blk_cell hka.out 1
      have a2 := blk_cell hka.out 2
      simp at a0 a1 a2
      go_wp2_with (first
        | (go_at_call 16; (with_reducible refine (HRR.out _ hw.out).mono ?_); rintro e w6 ⟨rfl, hb6⟩; have HB6 : Hid (Below w.heap.size w w6) := Lib.hid (hw.out.trans (hb6.mono hw.out.size)); clear hb6)
        | (go_at_call 6; (with_reducible refine (logbooklaw46_awake.calls k r _ HA.out).mono ?_); rintro e w7 ⟨rfl, hb7⟩))
      go_ret
      exact ⟨rfl, HB6.out.trans (hb7.mono HB6.out.size)⟩
  rw [if_neg (by decide)] at h4
  obtain ⟨s, h5, h6⟩ := Option.bind_eq_some_iff.1 h4
  clear h4
  obtain ⟨⟨y1, y2, y3, y4⟩, h7, h8⟩ := Option.bind_eq_some_iff.1 h6
  clear h6
  obtain ⟨t, h9, h10⟩ := Option.bind_eq_some_iff.1 h8
  clear h8
  obtain ⟨sm, h11, h12⟩ := Option.bind_eq_some_iff.1 h10
  clear h10
  by_cases hc : s.toList = t.toList ∧ y4 = 0 ∧ sm = true
  case neg => rw [if_neg hc] at h12; cases h12
  rw [if_pos hc] at h12
  obtain ⟨hst, rfl, rfl⟩ := hc
  have hstb : (s.toList == t.toList) = true := by simp [hst]
  have HL17 : Hid (∀ W, Below w.heap.size w W → Calls Tryd.prog 17 #[.agg #[.int .i64 a0_0, .slice A0_1 l0_1.length c0_1, .slice A0_2 l0_2.length c0_2]] W fun e w' => e = .returned (.string s) ∧ Below W.heap.size W w') :=
    Lib.hid (fun W hb => op_Op_Line.calls k a0_0 A0_1 c0_1 l0_1 A0_2 c0_2 l0_2 s W (Kd.C_below hr0_1 hb) hc0_1 (Kd.C_below hr0_2 hb) hc0_2 h5)
  have HL18 : Hid (∀ W, Below w.heap.size w W → Calls Tryd.prog 18 #[.agg #[.int .i64 a0_0, .slice A0_1 l0_1.length c0_1, .slice A0_2 l0_2.length c0_2]] W fun e w' => e = .returned (.string t) ∧ Below W.heap.size W w') :=
    Lib.hid (fun W hb => logbookref46_Line.calls k a0_0 A0_1 c0_1 l0_1 A0_2 c0_2 l0_2 t W (Kd.C_below hr0_1 hb) hc0_1 (Kd.C_below hr0_2 hb) hc0_2 h9)
  have HS : Hid (∀ (W : World) (B1 : Option Addr) (d1 : Nat) (B2 : Option Addr) (d2 : Nat), Kd.C (Kd.int .u64) W B1 y2.length y2 → y2.length ≤ d1 → Kd.C Kd.string W B2 y3.length y3 → y3.length ≤ d2 → Below w.heap.size w W →
      Calls Tryd.prog 9 #[.agg #[.int .i64 y1, .slice B1 y2.length d1, .slice B2 y3.length d2], .agg #[.int .i64 a0_0, .slice A0_1 l0_1.length c0_1, .slice A0_2 l0_2.length c0_2]] W fun e w' => e = .returned (.bool true) ∧ Below W.heap.size W w') :=
    Lib.hid (fun W B1 d1 B2 d2 g1 g2 g3 g4 hb => logbooklaw46_same.calls k y1 B1 d1 y2 B2 d2 y3 a0_0 A0_1 c0_1 l0_1 A0_2 c0_2 l0_2 true W g1 g2 g3 g4 (Kd.C_below hr0_1 hb) hc0_1 (Kd.C_below hr0_2 hb) hc0_2 h11)
  have HP := Lib.hid h7
  have HA := Lib.hid h12
  clear h5 h7 h9 h11 h12 hst hr0_1 hr0_2
  go_enter Tryd.func5, Tryd.ntmps5
  go_upto_region 4 with (first
    | (go_at_call 13; (with_reducible refine (HLT.out _ HB.out).mono ?_); rintro e w2 ⟨rfl, hb2⟩; have HB2 : Hid (Below w.heap.size w w2) := Lib.hid (HB.out.trans (hb2.mono HB.out.size)); have HO2 := Lib.hid (blk_below HO.out hb2); have a0 := blk_cell HO2.out 0; have a1 := blk_cell HO2.out 1; have a2 := blk_cell HO2.out 2; simp at a0 a1 a2; clear hb2)
    | (go_at_call 14; (with_reducible refine (opTo.calls a0_0 A0_1 l0_1.length c0_1 A0_2 l0_2.length c0_2 _).mono ?_); rintro e w3 ⟨rfl, hb3⟩; have HB3 : Hid (Below w.heap.size w w3) := Lib.hid (HB2.out.trans (hb3.mono HB2.out.size)); have HO3 := Lib.hid (blk_below HO2.out hb3); have HX3 := Lib.hid (heap_alloc_new w3 (.cells #[.int .i64 0, .slice none 0 0, .slice none 0 0] 26)); clear hb3 a0 a1 a2)
    | (refine store_ev rfl 26 _ _ rfl rfl w3.heap.size #[.int .i64 a0_0, .slice A0_1 l0_1.length c0_1, .slice A0_2 l0_2.length c0_2] rfl rfl 26 _ HX3.out (by kernel_rfl) (by kernel_rfl) (by kernel_rfl) ?_; intro w4 hb4 hp4; have HKB := Lib.hid hb4; have HW : Hid (Below w.heap.size w w4) := Lib.hid (hp4.below (HB3.out.alloc HB3.out.size _) HB3.out.size); have HKA : Hid (w4.heap[w.heap.size]? = some (.cells #[.int .i64 a0_0, .slice A0_1 l0_1.length c0_1, .slice A0_2 l0_2.length c0_2] 30 (0, 0))) := Lib.hid (hp4.blk (blk_alloc HO3.out _) (by have := HB3.out.size; have := (Array.getElem?_eq_some_iff.1 HO3.out).1; omega)); clear hb4 hp4))
  generalize w3.heap.size = g3 at HKB ⊢
  have a0 := blk_cell HKA.out 0
  have a1 := blk_cell HKA.out 1
  have a2 := blk_cell HKA.out 2
  have b0 := blk_cell HKB.out 0
  have b1' := blk_cell HKB.out 1
  have b2' := blk_cell HKB.out 2
  simp at a0 a1 a2 b0 b1' b2'
  go_cut [16] from 12 to 17 (fun v wx => v = .bool false ∧ Hid (Below w.heap.size w wx) ∧ Hid (wx.heap[w.heap.size]? = some (.cells #[.int .i64 a0_0, .slice A0_1 l0_1.length c0_1, .slice A0_2 l0_2.length c0_2] 30 (0, 0))) ∧ Hid (wx.heap[g3]? = some (.cells #[.int .i64 a0_0, .slice A0_1 l0_1.length c0_1, .slice A0_2 l0_2.length c0_2] 26 (0, 0))))
  case first =>
    go_region_with (first
      | (go_at_call 15; (with_reducible refine (HRX.out _ (by first | exact HW.out | exact HW.out.drew)).mono ?_); rintro e w5 ⟨rfl, hb5⟩; have HW5 : Hid (Below w.heap.size w w5) := Lib.hid (Below.trans (by first | exact HW.out | exact HW.out.drew) (hb5.mono (Below.size (by first | exact HW.out | exact HW.out.drew)))); have HKA5 := Lib.hid (blk_below (by first | exact HKA.out | exact blk_drew HKA.out) hb5); have HKB5 := Lib.hid (blk_below (by first | exact HKB.out | exact blk_drew HKB.out) hb5); clear HW HKA HKB; have HW := HW5; have HKA := HKA5; have HKB := HKB5; clear HW5 HKA5 HKB5; clear a0 a1 a2 b0 b1' b2'; have a0 := blk_cell HKA.out 0; have a1 := blk_cell HKA.out 1; have a2 := blk_cell HKA.out 2; have b0 := blk_cell HKB.out 0; have b1' := blk_cell HKB.out 1; have b2' := blk_cell HKB.out 2; simp at a0 a1 a2 b0 b1' b2'; clear hb5)
      | (go_at_call 16; (with_reducible refine (HRR.out _ (by first | exact HW.out | exact HW.out.drew)).mono ?_); rintro e w6 ⟨rfl, hb6⟩; have HW6 : Hid (Below w.heap.size w w6) := Lib.hid (Below.trans (by first | exact HW.out | exact HW.out.drew) (hb6.mono (Below.size (by first | exact HW.out | exact HW.out.drew)))); have HKA6 := Lib.hid (blk_below (by first | exact HKA.out | exact blk_drew HKA.out) hb6); have HKB6 := Lib.hid (blk_below (by first | exact HKB.out | exact blk_drew HKB.out) hb6); clear HW HKA HKB; have HW := HW6; have HKA := HKA6; have HKB := HKB6; clear HW6 HKA6 HKB6; clear a0 a1 a2 b0 b1' b2'; have a0 := blk_cell HKA.out 0; have a1 := blk_cell HKA.out 1; have a2 := blk_cell HKA.out 2; have b0 := blk_cell HKB.out 0; have b1' := blk_cell HKB.out 1; have b2' := blk_cell HKB.out 2; simp at a0 a1 a2 b0 b1' b2'; clear hb6))
    all_goals
      go_wp2_with fail
      go_meet
      exact ⟨rfl, HW, HKA, HKB⟩
  case rest =>
    obtain ⟨rfl, hw, hka, hkb⟩ := hcut
    have a0 := blk_cell hka.out 0
    have a1 := blk_cell hka.out 1
    have a2 := blk_cell hka.out 2
    simp at a0 a1 a2
    go_wp2_with (first
      | (go_at_call 16; (with_reducible refine (HRR.out _ hw.out).mono ?_); rintro e w6 ⟨rfl, hb6⟩; have HB6 : Hid (Below w.heap.size w w6) := Lib.hid (hw.out.trans (hb6.mono hw.out.size)); have HKA6 := Lib.hid (blk_below hka.out hb6); have HKB6 := Lib.hid (blk_below hkb.out hb6); have b0 := blk_cell HKB6.out 0; have b1' := blk_cell HKB6.out 1; have b2' := blk_cell HKB6.out 2; simp at b0 b1' b2'; clear hb6)
      | (go_at_call 17; (with_reducible refine (HL17.out _ HB6.out).mono ?_); rintro e w7 ⟨rfl, hb7⟩; have HB7 : Hid (Below w.heap.size w w7) := Lib.hid (HB6.out.trans (hb7.mono HB6.out.size)); have HKA7 := Lib.hid (blk_below HKA6.out hb7); have HKB7 := Lib.hid (blk_below HKB6.out hb7); clear hb7 b0 b1' b2')
      | (go_at_call 7; (with_reducible refine (op_Parse.calls k s y1 y2 y3 _ _ HP.out).mono ?_); rintro e w8 ⟨B1, d1, B2, d2, rfl, hd1, hD1, hd2, hD2, hb8⟩; have HD1 := Lib.hid hD1; have HD2 := Lib.hid hD2; have HB8 : Hid (Below w.heap.size w w8) := Lib.hid (HB7.out.trans (hb8.mono HB7.out.size)); have HKA8 := Lib.hid (blk_below HKA7.out hb8); have HKB8 := Lib.hid (blk_below HKB7.out hb8); have HO8 := Lib.hid (heap_alloc_new w8 (.cells #[.int .i64 0, .slice none 0 0, .slice none 0 0] 26)); clear hD1 hD2 hb8)
      | (refine store_ev rfl 26 _ _ rfl rfl w8.heap.size #[.int .i64 y1, .slice B1 y2.length d1, .slice B2 y3.length d2] rfl rfl 26 _ HO8.out (by kernel_rfl) (by kernel_rfl) (by kernel_rfl) ?_; intro w9 hb9 hp9; have HKC := Lib.hid hb9; have HV : Hid (Below w8.heap.size w8 w9) := Lib.hid (hp9.below ((Below.refl _ _).alloc (Nat.le_refl _) _) (Nat.le_refl _)); have HKA := Lib.hid (blk_below HKA8.out HV.out); have HKB := Lib.hid (blk_below HKB8.out HV.out); clear hb9 hp9))
    clear a0 a1 a2
    have a0 := blk_cell HKA.out 0
    have a1 := blk_cell HKA.out 1
    have a2 := blk_cell HKA.out 2
    have b0 := blk_cell HKB.out 0
    have b1' := blk_cell HKB.out 1
    have b2' := blk_cell HKB.out 2
    have e0 := blk_cell HKC.out 0
    have e1 := blk_cell HKC.out 1
    have e2 := blk_cell HKC.out 2
    simp at a0 a1 a2 b0 b1' b2' e0 e1 e2
    go_region_with (first
      | (go_at_call 17; (with_reducible refine (HL17.out _ (by first | exact HB8.out.trans (HV.out.mono HB8.out.size) | exact HB8.out.trans (HV.out.drew.mono HB8.out.size))).mono ?_); rintro e w10 ⟨rfl, hb10⟩; have HV10 : Hid (Below w8.heap.size w8 w10) := Lib.hid (Below.trans (by first | exact HV.out | exact HV.out.drew) (hb10.mono (Below.size (by first | exact HV.out | exact HV.out.drew)))); have HKA10 := Lib.hid (blk_below (by first | exact HKA.out | exact blk_drew HKA.out) hb10); have HKB10 := Lib.hid (blk_below (by first | exact HKB.out | exact blk_drew HKB.out) hb10); have HKC10 := Lib.hid (blk_below (by first | exact HKC.out | exact blk_drew HKC.out) hb10); clear HV HKA HKB HKC; have HV := HV10; have HKA := HKA10; have HKB := HKB10; have HKC := HKC10; clear HV10 HKA10 HKB10 HKC10; clear a0 a1 a2 b0 b1' b2' e0 e1 e2; have a0 := blk_cell HKA.out 0; have a1 := blk_cell HKA.out 1; have a2 := blk_cell HKA.out 2; have b0 := blk_cell HKB.out 0; have b1' := blk_cell HKB.out 1; have b2' := blk_cell HKB.out 2; have e0 := blk_cell HKC.out 0; have e1 := blk_cell HKC.out 1; have e2 := blk_cell HKC.out 2; simp at a0 a1 a2 b0 b1' b2' e0 e1 e2; clear hb10)
      | (go_at_call 18; (with_reducible refine (HL18.out _ (by first | exact HB8.out.trans (HV.out.mono HB8.out.size) | exact HB8.out.trans (HV.out.drew.mono HB8.out.size))).mono ?_); rintro e w11 ⟨rfl, hb11⟩; have HV11 : Hid (Below w8.heap.size w8 w11) := Lib.hid (Below.trans (by first | exact HV.out | exact HV.out.drew) (hb11.mono (Below.size (by first | exact HV.out | exact HV.out.drew)))); have HKA11 := Lib.hid (blk_below (by first | exact HKA.out | exact blk_drew HKA.out) hb11); have HKB11 := Lib.hid (blk_below (by first | exact HKB.out | exact blk_drew HKB.out) hb11); have HKC11 := Lib.hid (blk_below (by first | exact HKC.out | exact blk_drew HKC.out) hb11); clear HV HKA HKB HKC; have HV := HV11; have HKA := HKA11; have HKB := HKB11; have HKC := HKC11; clear HV11 HKA11 HKB11 HKC11; clear a0 a1 a2 b0 b1' b2' e0 e1 e2; have a0 := blk_cell HKA.out 0; have a1 := blk_cell HKA.out 1; have a2 := blk_cell HKA.out 2; have b0 := blk_cell HKB.out 0; have b1' := blk_cell HKB.out 1; have b2' := blk_cell HKB.out 2; have e0 := blk_cell HKC.out 0; have e1 := blk_cell HKC.out 1; have e2 := blk_cell HKC.out 2; simp at a0 a1 a2 b0 b1' b2' e0 e1 e2; clear hb11)
      | (go_at_call 9; (with_reducible refine (HS.out _ B1 d1 B2 d2 (Kd.C_below HD1.out HV.out) hd1 (Kd.C_below HD2.out HV.out) hd2 (by first | exact HB8.out.trans (HV.out.mono HB8.out.size) | exact HB8.out.trans (HV.out.drew.mono HB8.out.size))).mono ?_); rintro e w12 ⟨rfl, hb12⟩; have HV12 : Hid (Below w8.heap.size w8 w12) := Lib.hid (Below.trans (by first | exact HV.out | exact HV.out.drew) (hb12.mono (Below.size (by first | exact HV.out | exact HV.out.drew)))); have HKA12 := Lib.hid (blk_below (by first | exact HKA.out | exact blk_drew HKA.out) hb12); have HKB12 := Lib.hid (blk_below (by first | exact HKB.out | exact blk_drew HKB.out) hb12); have HKC12 := Lib.hid (blk_below (by first | exact HKC.out | exact blk_drew HKC.out) hb12); clear HV HKA HKB HKC; have HV := HV12; have HKA := HKA12; have HKB := HKB12; have HKC := HKC12; clear HV12 HKA12 HKB12 HKC12; clear a0 a1 a2 b0 b1' b2' e0 e1 e2; have a0 := blk_cell HKA.out 0; have a1 := blk_cell HKA.out 1; have a2 := blk_cell HKA.out 2; have b0 := blk_cell HKB.out 0; have b1' := blk_cell HKB.out 1; have b2' := blk_cell HKB.out 2; have e0 := blk_cell HKC.out 0; have e1 := blk_cell HKC.out 1; have e2 := blk_cell HKC.out 2; simp at a0 a1 a2 b0 b1' b2' e0 e1 e2; clear hb12)
      | (go_at_call 6; (with_reducible refine (logbooklaw46_awake.calls k r _ HA.out).mono ?_); rintro e w13 ⟨rfl, hb13⟩; have HV13 : Hid (Below w8.heap.size w8 w13) := Lib.hid (Below.trans (by first | exact HV.out | exact HV.out.drew) (hb13.mono (Below.size (by first | exact HV.out | exact HV.out.drew)))); have HKA13 := Lib.hid (blk_below (by first | exact HKA.out | exact blk_drew HKA.out) hb13); have HKB13 := Lib.hid (blk_below (by first | exact HKB.out | exact blk_drew HKB.out) hb13); have HKC13 := Lib.hid (blk_below (by first | exact HKC.out | exact blk_drew HKC.out) hb13); clear HV HKA HKB HKC; have HV := HV13; have HKA := HKA13; have HKB := HKB13; have HKC := HKC13; clear HV13 HKA13 HKB13 HKC13; clear a0 a1 a2 b0 b1' b2' e0 e1 e2; have a0 := blk_cell HKA.out 0; have a1 := blk_cell HKA.out 1; have a2 := blk_cell HKA.out 2; have b0 := blk_cell HKB.out 0; have b1' := blk_cell HKB.out 1; have b2' := blk_cell HKB.out 2; have e0 := blk_cell HKC.out 0; have e1 := blk_cell HKC.out 1; have e2 := blk_cell HKC.out 2; simp at a0 a1 a2 b0 b1' b2' e0 e1 e2; clear hb13))
    all_goals
      go_wp2
      go_ret
      exact ⟨rfl, HB8.out.trans (HV.out.mono HB8.out.size)⟩

end Go.Proofs.YtfhnmcjajpnhpaaDoor.POpWrites
