-- LAID BY gprint.py: a scratch copy of the print, with functions that this session proved by hand among the printed ones
import Derived.Test.YtfagbgkbmikccaaDoorPQuoteWordsx0
namespace Go.Proofs.YtfagbgkbmikccaaDoor.PQuoteWords
open Go.RowKit Go.Proofs.YtfagbgkbmikccaaDoorW.PrintWords Go.Proofs.YtfagbgkbmikccaaDoorW.PrintLast Go.Proofs.YtfagbgkbmikccaaDoor.Conv Go.Proofs.YtfagbgkbmikccaaDoor.Bld Go.Proofs.YtfagbgkbmikccaaDoorW.PrintMore
attribute [local go_sem] max2_int min2_int max_two min_two max_three min_three max_four min_four   -- for this text's walks alone
set_option linter.unusedVariables false
set_option linter.unusedSimpArgs false

/-! ### logbookref04_Texts: function 9 -/
def logbookref04_Texts.l0 : Nat → List ByteArray → List ByteArray → Int → Option (Bool)
  | 0, _, _, _ => none
  | k + 1, x0, x1, x5 => if x5 < (x0.length : Int) then (if 0 ≤ x5 then (if x5 < (x1.length : Int) then (if (rdOf ByteArray.empty x0 x5).toList = (rdOf ByteArray.empty x1 x5).toList then (logbookref04_Texts.l0 k x0 x1 (wrap64 (x5 + 1))) else (some false)) else (none)) else (none)) else (some true)
def logbookref04_Texts.f (k : Nat) (l0 : List ByteArray) (l1 : List ByteArray) : Option (Bool) := if (l0.length : Int) = (l1.length : Int) then (logbookref04_Texts.l0 k l0 l1 0) else (some false)
theorem logbookref04_Texts.mono_l : ∀ k, (∀ y0 y1 y2, LeO (logbookref04_Texts.l0 k y0 y1 y2) (logbookref04_Texts.l0 (k + 1) y0 y1 y2))
  | 0 => fun _ _ _ r h => by simp [logbookref04_Texts.l0] at h
  | k + 1 => by
    have ih0 := logbookref04_Texts.mono_l k
    · intro y0 y1 y2
      unfold logbookref04_Texts.l0
      repeat' first
      | (with_reducible exact ih0 _ _ _)
      | (with_reducible exact LeO.refl _)
      | (with_reducible exact LeO.none _)
      | (with_reducible refine LeO.ite ?_ ?_)
      | (with_reducible refine LeO.bind ?_ (fun _ => ?_))
      | exact ih0 _ _ _
      | exact LeO.none _
      | refine LeO.ite ?_ ?_
      | refine LeO.bind ?_ (fun _ => ?_)
theorem logbookref04_Texts.mono : ∀ a0 a1 k, LeO (logbookref04_Texts.f k a0 a1) (logbookref04_Texts.f (k + 1) a0 a1) := by
  intro a0 a1 k
  have ih0 := logbookref04_Texts.mono_l k
  unfold logbookref04_Texts.f
  repeat' first
      | (with_reducible exact ih0 _ _ _)
      | (with_reducible exact LeO.refl _)
      | (with_reducible exact LeO.none _)
      | (with_reducible refine LeO.ite ?_ ?_)
      | (with_reducible refine LeO.bind ?_ (fun _ => ?_))
      | exact ih0 _ _ _
      | exact LeO.none _
      | refine LeO.ite ?_ ?_
      | refine LeO.bind ?_ (fun _ => ?_)
set_option maxHeartbeats 8000000 in
set_option maxRecDepth 100000 in
theorem logbookref04_Texts.calls (k : Nat) (A0 : Option Addr) (c0 : Nat) (l0 : List ByteArray) (A1 : Option Addr) (c1 : Nat) (l1 : List ByteArray) (r : Bool) (w : World) (hr0 : Kd.C Kd.string w A0 l0.length l0) (hc0 : l0.length ≤ c0) (hr1 : Kd.C Kd.string w A1 l1.length l1) (hc1 : l1.length ≤ c1) (h : logbookref04_Texts.f k l0 l1 = some r) :
    Calls Tryd.prog 9 #[.slice A0 l0.length c0, .slice A1 l1.length c1] w fun e w' => e = .returned (.bool r) ∧ Drawn0 w w' := by
  have HR0 := Aside0.mk hr0
  have HC0 := Aside0.mk hc0
  clear hr0 hc0
  have HR1 := Aside0.mk hr1
  have HC1 := Aside0.mk hc1
  clear hr1 hc1
  have H : (if (l0.length : Int) = (l1.length : Int) then (logbookref04_Texts.l0 k l0 l1 0) else (some false)) = some r := h
  clear h
  by_cases c3 : (l0.length : Int) = (l1.length : Int)
  · rw [if_pos c3] at H
    have c3b0 : ((l0.length : Int) == (l1.length : Int)) = true := beq_iff_eq.mpr c3
    have c3b1 : ((l0.length : Int) != (l1.length : Int)) = false := bne_eq_false_iff_eq.mpr c3
    have c3b2 : (l0.length == l1.length) = true := by first | simpa using c3 | (simp at c3 ⊢; omega)
    clear c3
    have H' := Aside0.mk H
    clear H
    go_enter Tryd.func9, Tryd.ntmps9
    go_wp2
    repeat (go_quiet (fail); try go_wp2)
    go_loopg [5] k (fun kq v5 w' => ∃ (x5_1 : Int), v5 = .int .i64 x5_1 ∧ Aside0 (logbookref04_Texts.l0 kq l0 l1 x5_1 = some r) ∧ Aside0 (kq ≤ k) ∧ Drawn0 w w')
    case atStart => exact ⟨(0), (by first | rfl | (simp; done) | (simp [*]; done) | exact isEmpty_bne _), H', ⟨Nat.le_refl _⟩, by repeat (first | exact Drawn0.refl _ | apply Drawn0.step)⟩
    case round =>
      clear H'
      try clear c1
      try clear p2
      try clear c3
      try clear c3b0
      try clear c3b1
      try clear c3b2
      obtain ⟨x5_1, rfl, HA, HK1, ⟨m1, rfl⟩⟩ := hrel
      cases gk with
      | zero => exact absurd HA.out (by simp [logbookref04_Texts.l0])
      | succ k1 =>
        have H := HA.out
        clear HA
        simp only [logbookref04_Texts.l0] at H
        by_cases c4 : x5_1 < (l0.length : Int)
        · rw [if_pos c4] at H
          have c4b0 : decide (x5_1 < (l0.length : Int)) = true := decide_eq_true c4
          clear c4
          by_cases c5 : 0 ≤ x5_1
          · rw [if_pos c5] at H
            have c5b0 : decide (0 ≤ x5_1) = true := decide_eq_true c5
            clear c5
            by_cases c6 : x5_1 < (l1.length : Int)
            · rw [if_pos c6] at H
              have c6b0 : decide (x5_1 < (l1.length : Int)) = true := decide_eq_true c6
              clear c6
              by_cases c7 : (rdOf ByteArray.empty l0 x5_1).toList = (rdOf ByteArray.empty l1 x5_1).toList
              · rw [if_pos c7] at H
                have c7b0 : ((rdOf ByteArray.empty l0 x5_1).toList == (rdOf ByteArray.empty l1 x5_1).toList) = true := beq_iff_eq.mpr c7
                have c7b1 : ((rdOf ByteArray.empty l0 x5_1).toList != (rdOf ByteArray.empty l1 x5_1).toList) = false := bne_eq_false_iff_eq.mpr c7
                clear c7
                have H' := Aside0.mk H
                clear H
                have p143 : 0 ≤ (x5_1 : Int) := of_decide_eq_true (by first | (with_reducible assumption) | assumption)
                have q143 : x5_1 < (l0.length : Int) := of_decide_eq_true (by first | (with_reducible assumption) | assumption)
                obtain ⟨ad143, e143, hx143_0⟩ := Kd.at_string HR0.out x5_1 p143 q143
                cases e143
                replace p143 := eq_true p143
                replace q143 := eq_true q143
                have p144 : 0 ≤ (x5_1 : Int) := of_decide_eq_true (by first | (with_reducible assumption) | assumption)
                have q144 : x5_1 < (l1.length : Int) := of_decide_eq_true (by first | (with_reducible assumption) | assumption)
                obtain ⟨ad144, e144, hx144_0⟩ := Kd.at_string HR1.out x5_1 p144 q144
                cases e144
                replace p144 := eq_true p144
                replace q144 := eq_true q144
                go_wp2
                repeat (go_quiet (fail); try go_wp2)
                go_roundg k1
                case measure => have := HK1.out; omega
                case rel => exact ⟨(wrap64 (x5_1 + 1)), (by first | rfl | (simp; done) | (simp [*]; done) | exact isEmpty_bne _), H', ⟨by have := HK1.out; omega⟩, by repeat (first | exact Drawn0.refl _ | apply Drawn0.step)⟩
              · rw [if_neg c7] at H
                have c7b0 : ((rdOf ByteArray.empty l0 x5_1).toList == (rdOf ByteArray.empty l1 x5_1).toList) = false := beq_eq_false_iff_ne.mpr c7
                have c7b1 : ((rdOf ByteArray.empty l0 x5_1).toList != (rdOf ByteArray.empty l1 x5_1).toList) = true := bne_iff_ne.mpr c7
                obtain rfl := Option.some.inj H
                have p143 : 0 ≤ (x5_1 : Int) := of_decide_eq_true (by first | (with_reducible assumption) | assumption)
                have q143 : x5_1 < (l0.length : Int) := of_decide_eq_true (by first | (with_reducible assumption) | assumption)
                obtain ⟨ad143, e143, hx143_0⟩ := Kd.at_string HR0.out x5_1 p143 q143
                cases e143
                replace p143 := eq_true p143
                replace q143 := eq_true q143
                have p144 : 0 ≤ (x5_1 : Int) := of_decide_eq_true (by first | (with_reducible assumption) | assumption)
                have q144 : x5_1 < (l1.length : Int) := of_decide_eq_true (by first | (with_reducible assumption) | assumption)
                obtain ⟨ad144, e144, hx144_0⟩ := Kd.at_string HR1.out x5_1 p144 q144
                cases e144
                replace p144 := eq_true p144
                replace q144 := eq_true q144
                go_wp2
                repeat (go_quiet (fail); try go_wp2)
                go_ret
                exact ⟨by first | rfl | (simp; done) | (simp [*]; done) | exact isEmpty_bne _, by repeat (first | exact Drawn0.refl _ | apply Drawn0.step)⟩
            · rw [if_neg c6] at H
              exact absurd H (by simp)
          · rw [if_neg c5] at H
            exact absurd H (by simp)
        · rw [if_neg c4] at H
          have c4b0 : decide (x5_1 < (l0.length : Int)) = false := decide_eq_false c4
          clear c4
          obtain rfl := Option.some.inj H
          go_wp2
          repeat (go_quiet (fail); try go_wp2)
          go_ret
          exact ⟨by first | rfl | (simp; done) | (simp [*]; done) | exact isEmpty_bne _, by repeat (first | exact Drawn0.refl _ | apply Drawn0.step)⟩
  · rw [if_neg c3] at H
    have c3b0 : ((l0.length : Int) == (l1.length : Int)) = false := beq_eq_false_iff_ne.mpr c3
    have c3b1 : ((l0.length : Int) != (l1.length : Int)) = true := bne_iff_ne.mpr c3
    have c3b2 : (l0.length == l1.length) = false := by first | simpa using c3 | (simp at c3 ⊢; omega)
    obtain rfl := Option.some.inj H
    go_enter Tryd.func9, Tryd.ntmps9
    go_wp2
    repeat (go_quiet (fail); try go_wp2)
    go_ret
    exact ⟨by first | rfl | (simp; done) | (simp [*]; done) | exact isEmpty_bne _, by repeat (first | exact Drawn0.refl _ | apply Drawn0.step)⟩

-- GIVEN rounds=0 making=1
/-! ### logbookref31.Word: by hand: texts put one behind the other -/
def logbookref31_Word.f (a0 : ByteArray) : Option (ByteArray) := if a0.size ≤ 40000000000000 then some (strOfNums (wordL (bytesOf a0))) else none
def hexT : ByteArray := ⟨#[48, 49, 50, 51, 52, 53, 54, 55, 56, 57, 65, 66, 67, 68, 69, 70]⟩
theorem hex_cut : ∀ x : Fin 16, hexT.extract x.val (x.val + 1) = strOfNums [digU (x.val : Int)] := by decide +kernel
theorem str_one {a b : List Int} : strOfNums a ++ strOfNums b = strOfNums (a ++ b) := by
  show ByteArray.mk _ ++ ByteArray.mk _ = ByteArray.mk _
  rw [ByteArray.ext_iff]
  simp [ByteArray.data_append]
theorem str_lit37 : (⟨#[37]⟩ : ByteArray) = strOfNums [37] := by decide
theorem str_cut (s : ByteArray) (k : Nat) (h : k < s.size) : s.extract k (k + 1) = strOfNums [bt s k] := by
  have e : (s.extract k (k + 1)).data.toList = (strOfNums [bt s k]).data.toList := by
    rw [ByteArray.data_extract, Array.toList_extract, List.extract_eq_drop_take']
    have h1 : k < s.data.toList.length := by rw [Array.length_toList]; exact h
    rw [List.take_succ_eq_append_getElem h1, List.drop_append_of_le_length (by simp; omega), List.drop_of_length_le (by simp; omega)]
    show [s.data.toList[k]] = [UInt8.ofNat (bt s k).toNat]
    have e2 : bt s (k : Int) = ((s.data.toList.getD k 0).toNat : Int) := by
      rw [← rd_bytesOf]
      unfold rd
      rw [Int.toNat_natCast, List.getD_eq_getElem?_getD (l := bytesOf s), bytesOf_get s k h]
      rfl
    rw [e2, List.getD_eq_getElem?_getD, List.getElem?_eq_getElem h1]
    simp
  exact ByteArray.ext (Array.toList_inj.1 e)
theorem size_str1 (l : List Int) : (strOfNums l).size = l.length := by
  show (l.map _).toArray.size = _
  simp
set_option maxHeartbeats 6400000 in
theorem logbookref31_Word.calls (a0 : ByteArray) (r : ByteArray) (w : World) (h : logbookref31_Word.f a0 = some r) :
    Calls Tryd.prog 15 #[.string a0] w fun e w' => e = .returned (.string r) ∧ Below w.heap.size w w' := by
  unfold logbookref31_Word.f at h
  by_cases hs : a0.size ≤ 40000000000000
  case neg => rw [if_neg hs] at h; cases h
  rw [if_pos hs] at h
  by_cases hz : a0.size = 0
  · have hr : r = strOfNums [37] := by
      rw [← Option.some.inj h]
      unfold wordL
      rw [if_pos (List.eq_nil_of_length_eq_zero (by rw [bytesOf_length]; exact hz))]
    have HR := Lib.hid hr
    have e1 := toList_nil hz
    clear hz h hr
    go_enter Tryd.func15, Tryd.ntmps15
    go_wp2
    go_ret
    exact ⟨by rw [HR.out]; rfl, Below.refl _ _⟩
  have hr : Hid (strOfNums ((bytesOf a0).flatMap encB) = r) := Lib.hid (by
    rw [← Option.some.inj h]
    unfold wordL
    rw [if_neg (fun e => hz (by rw [← bytesOf_length, e]; rfl))])
  obtain ⟨e1, e2⟩ := toList_ne hz
  have hm : a0.size ≤ 9223372036854775807 := Nat.le_trans hs (by decide)
  clear h hz
  go_enter Tryd.func15, Tryd.ntmps15
  go_wp2
  go_loopw [4, 5, 6, 7] (fun o i _ _ wr => ∃ (k : Nat) (out : ByteArray), k ≤ a0.size ∧ i = .int .i64 k ∧ o = .string out ∧ Hid (out = strOfNums (((bytesOf a0).take k).flatMap encB)) ∧ Hid (Below w.heap.size w wr)) (fun _ i _ _ _ => a0.size - (intOf i).toNat)
  case atStart => exact ⟨0, ⟨#[]⟩, Nat.zero_le _, rfl, rfl, Lib.hid rfl, Lib.hid (Below.refl _ _)⟩
  case round =>
    obtain ⟨k, out, hk, rfl, rfl, hout, hbel⟩ := hrel
    have hlen : out.size ≤ 120000000000000 := by
      rw [hout.out, size_str1]
      have h1 := flatMap_len ((bytesOf a0).take k)
      have h2 : ((bytesOf a0).take k).length ≤ a0.size := by
        rw [List.length_take, bytesOf_length]
        omega
      omega
    have s1 : (9223372036854775807 < out.size + 1) = False := eq_false (by omega)
    have s2 : (9223372036854775807 < out.size + 1 + 1) = False := eq_false (by omega)
    have s3 : (9223372036854775807 < out.size + 1 + 1 + 1) = False := eq_false (by omega)
    have s4 : (9223372036854775807 < out.size + 2) = False := eq_false (by omega)
    have s5 : (9223372036854775807 < out.size + 3) = False := eq_false (by omega)
    by_cases hlt : k < a0.size
    · have hb := bt_range a0 k
      have HT := Lib.hid (take_flat a0 k hlt)
      have HX := Lib.hid (str_cut a0 k hlt)
      have hbt : ((a0[k]'hlt).toNat : Int) = bt a0 (k : Int) := bt_at a0 (k : Int) (by simpa using hlt)
      generalize hg : bt a0 k = c at hb HT HX hbt
      clear hg
      cases hp : plainB c
      · have HP := Lib.hid (encB_no hp)
        obtain ⟨x, hx⟩ : ∃ x : Nat, c / 16 = x := ⟨(c / 16).toNat, by omega⟩
        obtain ⟨y, hy⟩ : ∃ y : Nat, c % 16 = y := ⟨(c % 16).toNat, by omega⟩
        have hx16 : x < 16 := by omega
        have hy16 : y < 16 := by omega
        have q1 : Int.tdiv c 16 % 256 = (x : Int) := by rw [Int.tdiv_eq_ediv_of_nonneg hb.1]; omega
        have q2 : Int.tmod c 16 = (y : Int) := by rw [Int.tmod_eq_emod_of_nonneg hb.1]; omega
        have d : c ≤ 32 ∨ (32 < c ∧ 127 ≤ c) ∨ (32 < c ∧ c < 127 ∧ c = 37) := by
          have h1 := hp
          simp [plainB] at h1
          omega
        have hc1 := hex_cut ⟨x, hx16⟩
        have hc2 := hex_cut ⟨y, hy16⟩
        have sl : ∀ z : Nat, z < 16 → ∀ W, (Instr.slice 9 (.string ⟨#[48, 49, 50, 51, 52, 53, 54, 55, 56, 57, 65, 66, 67, 68, 69, 70]⟩) (some (.int .i64 z)) (some (.int .i64 ((z : Int) + 1))) none).run Tryd.prog W = .ok (.string (strOfNums [digU z])) W := by
          intro z hz W
          have g0 : (0 : Int) ≤ z := by omega
          have g1 : (z : Int) ≤ (z : Int) + 1 := by omega
          have g2 : (z : Int) + 1 ≤ hexT.size := by
            show (z : Int) + 1 ≤ 16
            omega
          have := run_slice_string (P := Tryd.prog) (w := W) 9 hexT .i64 .i64 z ((z : Int) + 1) Tryd.underlying9 g0 g1 g2
          have e := hex_cut ⟨z, hz⟩
          rw [show ((z : Int) + 1).toNat = z + 1 by omega, Int.toNat_natCast, e] at this
          exact this
        have wz : ∀ z : Nat, z < 16 → IntKind.i64.wrap ((z : Int) + 1) = (z : Int) + 1 := fun z hz => by rw [i64_w]; unfold wrap64; omega
        have w3 : IntKind.i64.wrap (c / 16 + 1) = c / 16 + 1 := by rw [hx]; exact wz x hx16
        have w4 : IntKind.i64.wrap (c % 16 + 1) = c % 16 + 1 := by rw [hy]; exact wz y hy16
        have sx := sl x hx16
        have sy := sl y hy16
        rw [← hx] at sx
        rw [← hy] at sy
        have zx : (strOfNums [digU (x : Int)]).size = 1 := size_str1 _
        have zy : (strOfNums [digU (y : Int)]).size = 1 := size_str1 _
        rw [← hx] at zx
        rw [← hy] at zy
        generalize hdx : strOfNums [digU (c / 16)] = dx at sx zx
        generalize hdy : strOfNums [digU (c % 16)] = dy at sy zy
        have HDX := Lib.hid hdx
        have HDY := Lib.hid hdy
        have HXX := Lib.hid hx
        have HYY := Lib.hid hy
        have FIN : Hid (out ++ ⟨#[37]⟩ ++ dx ++ dy = strOfNums (((bytesOf a0).take (k + 1)).flatMap encB)) := Lib.hid (by
          rw [HT.out, HP.out, hout.out, str_lit37, ← HDX.out, ← HDY.out, str_one, str_one, str_one]
          congr 1
          simp)
        clear hp sl wz hc1 hc2 hdx hdy hx hy q1 q2 hx16 hy16
        rcases d with d | ⟨d, d'⟩ | ⟨d, d', rfl⟩
        all_goals
          go_wp2
          go_quiet (fail)
          (try go_wp2)
          go_quiet (fail)
          go_wp2
          go_roundw
          case rel => exact ⟨k + 1, _, by omega, by go_num, rfl, Lib.hid (by first | exact FIN.out | (rw [← FIN.out, ← HDX.out, ← HDY.out]; congr 1)), Lib.hid (pw_below_drewN hbel.out _)⟩
          case measure => simp [intOf]; omega
      · have HP := Lib.hid (encB_yes hp)
        have d : 32 < c ∧ c < 127 ∧ c ≠ 37 := by
          have h1 := hp
          simp [plainB] at h1
          omega
        obtain ⟨d1, d2, d3⟩ := d
        have d4 : (c != 37) = true := bne_iff_ne.2 d3
        have D3 := Lib.hid d3
        have hsl : ∀ W, (Instr.slice 9 (.string a0) (some (.int .i64 k)) (some (.int .i64 ((k : Int) + 1))) none).run Tryd.prog W = .ok (.string (a0.extract k (k + 1))) W := by
          intro W
          have g0 : (0 : Int) ≤ k := by omega
          have g1 : (k : Int) ≤ (k : Int) + 1 := by omega
          have g2 : (k : Int) + 1 ≤ a0.size := by omega
          have := run_slice_string (P := Tryd.prog) (w := W) 9 a0 .i64 .i64 k ((k : Int) + 1) Tryd.underlying9 g0 g1 g2
          simpa using this
        rw [HX.out] at hsl
        have hdz : (strOfNums [c]).size = 1 := size_str1 _
        generalize hdc : strOfNums [c] = dc at hsl hdz
        have HDC := Lib.hid hdc
        clear d3 hp hdc
        go_wp2
        go_roundw
        case rel => exact ⟨k + 1, _, by omega, by go_num, rfl, Lib.hid (by rw [HT.out, HP.out, hout.out, ← str_one, HDC.out]), hbel⟩
        case measure => simp [intOf]; omega
    · go_wp2
      go_ret
      refine ⟨ret_str ?_, hbel.out⟩
      rw [← hr.out, hout.out, List.take_of_length_le (by rw [bytesOf_length]; omega)]

/-! ### logbookref31_nibble: function 25 -/
def logbookref31_nibble.j0 : Nat → Int → Bool → Option (Int)
  | 0, _, _ => none
  | k + 1, x0, x8 => if x8 = true then (some ((x0 - 48) % 256)) else (if x0 ≥ 65 then (if x0 ≤ 70 then (some ((((x0 - 65) % 256) + 10) % 256)) else (some 0)) else (some 0))
def logbookref31_nibble.f (k : Nat) (a0 : Int) : Option (Int) := if a0 ≥ 48 then (logbookref31_nibble.j0 k a0 (decide (a0 ≤ 57))) else (logbookref31_nibble.j0 k a0 false)
theorem logbookref31_nibble.mono_l : ∀ k, (∀ y0 y1, LeO (logbookref31_nibble.j0 k y0 y1) (logbookref31_nibble.j0 (k + 1) y0 y1))
  | 0 => fun _ _ r h => by simp [logbookref31_nibble.j0] at h
  | k + 1 => by
    have ih0 := logbookref31_nibble.mono_l k
    · intro y0 y1
      unfold logbookref31_nibble.j0
      repeat' first
      | (with_reducible exact ih0 _ _)
      | (with_reducible exact LeO.refl _)
      | (with_reducible exact LeO.none _)
      | (with_reducible refine LeO.ite ?_ ?_)
      | (with_reducible refine LeO.bind ?_ (fun _ => ?_))
      | exact ih0 _ _
      | exact LeO.none _
      | refine LeO.ite ?_ ?_
      | refine LeO.bind ?_ (fun _ => ?_)
theorem logbookref31_nibble.mono : ∀ a0 k, LeO (logbookref31_nibble.f k a0) (logbookref31_nibble.f (k + 1) a0) := by
  intro a0 k
  have ih0 := logbookref31_nibble.mono_l k
  unfold logbookref31_nibble.f
  repeat' first
      | (with_reducible exact ih0 _ _)
      | (with_reducible exact LeO.refl _)
      | (with_reducible exact LeO.none _)
      | (with_reducible refine LeO.ite ?_ ?_)
      | (with_reducible refine LeO.bind ?_ (fun _ => ?_))
      | exact ih0 _ _
      | exact LeO.none _
      | refine LeO.ite ?_ ?_
      | refine LeO.bind ?_ (fun _ => ?_)
set_option maxHeartbeats 8000000 in
set_option maxRecDepth 100000 in
theorem logbookref31_nibble.calls (k : Nat) (a0 : Int) (r : Int) (w : World) (h : logbookref31_nibble.f k a0 = some r) :
    Calls Tryd.prog 25 #[.int .u8 a0] w fun e w' => e = .returned (.int .u8 r) ∧ Drawn0 w w' := by
  have H : (if a0 ≥ 48 then (logbookref31_nibble.j0 k a0 (decide (a0 ≤ 57))) else (logbookref31_nibble.j0 k a0 false)) = some r := h
  clear h
  have HC2 := Aside0.mk H
  clear H
  go_enter Tryd.func25, Tryd.ntmps25
  go_upto_region 1 with (fail)
  go_cut [8] (fun v8 wc => ∃ (kq : Nat) (x8_1 : Bool), v8 = .bool x8_1 ∧ Aside0 (logbookref31_nibble.j0 kq a0 x8_1 = some r) ∧ Aside0 (kq ≤ k) ∧ Drawn0 w wc)
  case first =>
    have H := HC2.out
    clear HC2
    by_cases c3 : a0 ≥ 48
    · rw [if_pos c3] at H
      have c3b0 : decide (48 ≤ a0) = true := decide_eq_true c3
      clear c3
      (first | rw [c3b0] | (simp only [i64_w, i32_w]; rw [c3b0]) | skip)
      have H' := Aside0.mk H
      clear H
      go_wp2
      go_meet
      case rel => exact ⟨_, (decide (a0 ≤ 57)), (by first | rfl | (simp; done) | (simp [*]; done) | exact isEmpty_bne _), H', ⟨by first | omega | exact Nat.le_refl _⟩, by repeat (first | exact Drawn0.refl _ | apply Drawn0.step)⟩
    · rw [if_neg c3] at H
      have c3b0 : decide (48 ≤ a0) = false := decide_eq_false c3
      clear c3
      (first | rw [c3b0] | (simp only [i64_w, i32_w]; rw [c3b0]) | skip)
      have H' := Aside0.mk H
      clear H
      go_wp2
      go_meet
      case rel => exact ⟨_, (false), (by first | rfl | (simp; done) | (simp [*]; done) | exact isEmpty_bne _), H', ⟨by first | omega | exact Nat.le_refl _⟩, by repeat (first | exact Drawn0.refl _ | apply Drawn0.step)⟩
  case rest =>
    clear HC2
    try clear c2
    try clear p2
    try clear c3
    try clear c3b0
    obtain ⟨kq, x8_1, rfl, HA, HJ1, ⟨mc1, rfl⟩⟩ := hcut
    cases kq with
    | zero => exact absurd HA.out (by simp [logbookref31_nibble.j0])
    | succ kj1 =>
      have H := HA.out
      clear HA
      simp only [logbookref31_nibble.j0] at H
      by_cases c4 : x8_1 = true
      · subst c4
        have H1 : (some ((a0 - 48) % 256)) = some r := by rw [if_pos rfl] at H; exact H
        clear H
        have H := H1
        clear H1
        obtain rfl := Option.some.inj H
        go_wp2
        go_ret
        exact ⟨by first | rfl | (simp; done) | (simp [*]; done) | exact isEmpty_bne _, by repeat (first | exact Drawn0.refl _ | apply Drawn0.step)⟩
      · replace c4 := Bool.eq_false_iff.mpr c4
        subst c4
        have H1 : (if a0 ≥ 65 then (if a0 ≤ 70 then (some ((((a0 - 65) % 256) + 10) % 256)) else (some 0)) else (some 0)) = some r := by rw [if_neg (show ¬ (false = true) by decide)] at H; exact H
        clear H
        have H := H1
        clear H1
        by_cases c5 : a0 ≥ 65
        · rw [if_pos c5] at H
          have c5b0 : decide (65 ≤ a0) = true := decide_eq_true c5
          clear c5
          by_cases c6 : a0 ≤ 70
          · rw [if_pos c6] at H
            have c6b0 : decide (a0 ≤ 70) = true := decide_eq_true c6
            clear c6
            obtain rfl := Option.some.inj H
            go_wp2
            go_ret
            exact ⟨by first | rfl | (simp; done) | (simp [*]; done) | exact isEmpty_bne _, by repeat (first | exact Drawn0.refl _ | apply Drawn0.step)⟩
          · rw [if_neg c6] at H
            have c6b0 : decide (a0 ≤ 70) = false := decide_eq_false c6
            clear c6
            obtain rfl := Option.some.inj H
            go_wp2
            go_ret
            exact ⟨by first | rfl | (simp; done) | (simp [*]; done) | exact isEmpty_bne _, by repeat (first | exact Drawn0.refl _ | apply Drawn0.step)⟩
        · rw [if_neg c5] at H
          have c5b0 : decide (65 ≤ a0) = false := decide_eq_false c5
          clear c5
          obtain rfl := Option.some.inj H
          go_wp2
          go_ret
          exact ⟨by first | rfl | (simp; done) | (simp [*]; done) | exact isEmpty_bne _, by repeat (first | exact Drawn0.refl _ | apply Drawn0.step)⟩

end Go.Proofs.YtfagbgkbmikccaaDoor.PQuoteWords
