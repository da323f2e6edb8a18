-- LAID BY gprint.py: a scratch copy of the print, with functions that this session proved by hand among the printed ones
import Derived.Test.YtfagbgkbmikccaaDoorPQuoteLinesx0
namespace Go.Proofs.YtfagbgkbmikccaaDoor.PQuoteLines
open Go.RowKit Go.Proofs.YtfagbgkbmikccaaDoorW.PrintWords Go.Proofs.YtfagbgkbmikccaaDoorW.PrintLast Go.Proofs.YtfagbgkbmikccaaDoor.Conv Go.Proofs.YtfagbgkbmikccaaDoor.Bld Go.Proofs.YtfagbgkbmikccaaDoorW.PrintMore
attribute [local go_sem] max2_int min2_int max_two min_two max_three min_three max_four min_four   -- for this text's walks alone
set_option linter.unusedVariables false
set_option linter.unusedSimpArgs false

-- GIVEN rounds=0 making=1 bld
/-! ### quote.Word: by hand: a builder, beside a conversion's row -/
def quote_Word.f (a0 : ByteArray) : Option (ByteArray) := if a0.size ≤ 40000000000000 then some (strOfNums (wordL (bytesOf a0))) else none
theorem quote_Word.plain (c : Int) (w : World) (h0 : 0 ≤ c) (h1 : c ≤ 255) : Calls Tryd.prog 17 #[.int .u8 c] w fun e w' => e = .returned (.bool (plainB c)) ∧ w = w' := by
  by_cases c1 : 32 < c
  · by_cases c2 : c < 127
    · by_cases c3 : c = 37
      · have hr : plainB c = false := by rw [c3]; rfl
        have e3 : (c != 37) = false := by rw [c3]; rfl
        have HR := Lib.hid hr
        clear hr c3
        go_enter Tryd.func17, Tryd.ntmps17
        go_wp2
        go_ret
        exact ⟨ret_bool HR.out.symm, rfl⟩
      · have e3 : (c != 37) = true := bne_iff_ne.2 c3
        have hr : plainB c = true := by simp [plainB, c1, c2, c3]
        have HR := Lib.hid hr
        clear hr c3
        go_enter Tryd.func17, Tryd.ntmps17
        go_wp2
        go_ret
        exact ⟨ret_bool HR.out.symm, rfl⟩
    · have hr : plainB c = false := by simp [plainB, c1, c2]
      have HR := Lib.hid hr
      have e2 : 127 ≤ c := by omega
      clear hr c2
      go_enter Tryd.func17, Tryd.ntmps17
      go_wp2
      go_ret
      exact ⟨ret_bool HR.out.symm, rfl⟩
  · have hr : plainB c = false := by simp [plainB, c1]
    have HR := Lib.hid hr
    have e2 : c ≤ 32 := by omega
    clear hr c1
    go_enter Tryd.func17, Tryd.ntmps17
    go_wp2
    go_ret
    exact ⟨ret_bool HR.out.symm, rfl⟩
theorem quote_Word.digit (n : Int) (w : World) (h0 : 0 ≤ n) (h1 : n < 16) : Calls Tryd.prog 19 #[.int .u8 n] w fun e w' => e = .returned (.int .u8 (digU n)) ∧ w = w' := by
  by_cases c1 : n < 10
  · have hr : digU n = 48 + n := if_pos c1
    have HR := Lib.hid hr
    clear hr
    go_enter Tryd.func19, Tryd.ntmps19
    go_wp2
    go_ret
    exact ⟨ret_u8 HR.out.symm, rfl⟩
  · have hr : digU n = 55 + n := if_neg c1
    have HR := Lib.hid hr
    have e2 : 10 ≤ n := by omega
    clear hr c1
    go_enter Tryd.func19, Tryd.ntmps19
    go_wp2
    go_ret
    refine ⟨?_, rfl⟩
    exact ret_u8 (by rw [HR.out]; omega)
set_option maxHeartbeats 3200000 in
theorem quote_Word.calls (a0 : ByteArray) (r : ByteArray) (w : World) (h : quote_Word.f a0 = some r) :
    Calls Tryd.prog 11 #[.string a0] w fun e w' => e = .returned (.string r) ∧ Below w.heap.size w w' := by
  unfold quote_Word.f at h
  by_cases hs : a0.size ≤ 40000000000000
  case neg => rw [if_neg hs] at h; cases h
  rw [if_pos hs] at h
  by_cases hz : a0.size = 0
  · have hr : r = strOfNums [37] := by
      rw [← Option.some.inj h]
      unfold wordL
      rw [if_pos (List.eq_nil_of_length_eq_zero (by rw [bytesOf_length]; exact hz))]
    have HR := Lib.hid hr
    have e1 := toList_nil hz
    clear hz h hr
    go_enter Tryd.func11, Tryd.ntmps11
    go_wp2
    go_ret
    exact ⟨by rw [HR.out]; rfl, Below.refl _ _⟩
  have hr : Hid (strOfNums ((bytesOf a0).flatMap encB) = r) := Lib.hid (by
    rw [← Option.some.inj h]
    unfold wordL
    rw [if_neg (fun e => hz (by rw [← bytesOf_length, e]; rfl))])
  obtain ⟨e1, e2⟩ := toList_ne hz
  have hm : a0.size ≤ 9223372036854775807 := Nat.le_trans hs (by decide)
  clear h hz
  have kc := fun (w : World) => Lib.run_convert_string_bytes (P := Tryd.prog) w 9 37 5 a0 Tryd.underlying9 Tryd.underlying37 Tryd.underlying5
  go_enter Tryd.func11, Tryd.ntmps11
  go_wp2
  have hI0 := bld_new 39 5 w
  generalize hW : w.alloc (.cells #[.pointer none, .slice none 0 0] 39) = W at hI0
  have hsz : W.heap.size = w.heap.size + 1 := by rw [← hW]; simp
  have hBW : Below w.heap.size w W := by rw [← hW]; exact (Below.refl w.heap.size w).alloc (Nat.le_refl _) _
  have hI := bld_keep (w' := Lib.bytesWorld W 5 a0) hI0 (fun k hk => Lib.bytesWorld_at_old W 5 a0 k hk)
  have hB1 : Below w.heap.size w (Lib.bytesWorld W 5 a0) := below_then hBW (by omega) (below_bytes W 5 a0)
  have hrow := Lib.bytesWorld_at_new W 5 a0
  rw [hsz] at hrow
  have hcs := bytesCells_get W 5 a0
  have hz1 := Lib.bytesWorld_size W 5 a0
  have HI := Lib.hid hI
  have HB1 := Lib.hid hB1
  have HROW := Lib.hid hrow
  have HCS := Lib.hid hcs
  have HSZ : Hid (w.heap.size + 1 < (Lib.bytesWorld W 5 a0).heap.size) := Lib.hid (by omega)
  clear hI hB1 hrow hcs hz1 hI0 hBW hsz hW
  generalize Lib.bytesCells W 5 a0 = cs at HROW HCS
  go_loopw [11, 5] (fun i _ wr => ∃ k : Nat, k ≤ a0.size ∧ i = .int .i64 k ∧ Hid (Lib.IsBuilder 39 5 w.heap.size w.heap.size (nums .u8 (((bytesOf a0).take k).flatMap encB)) wr) ∧ Hid (wr.heap[w.heap.size + 1]? = some (.cells cs 5 (cs.size, cs.size + 1))) ∧ Hid (Below w.heap.size w wr)) (fun i _ _ => a0.size - (intOf i).toNat)
  case atStart => exact ⟨0, Nat.zero_le _, rfl, HI, HROW, HB1⟩
  case round =>
    obtain ⟨k, hk, rfl, hbld, hrow, hbel⟩ := hrel
    have hBw := hbel.out.size
    have hlen : Hid ((nums .u8 (((bytesOf a0).take k).flatMap encB)).length ≤ 120000000000000) := Lib.hid (by
      have h1 := flatMap_len ((bytesOf a0).take k)
      have h2 : ((bytesOf a0).take k).length ≤ a0.size := by
        rw [List.length_take, bytesOf_length]
        omega
      show (List.map _ _).length ≤ _
      rw [List.length_map]
      omega)
    by_cases hlt : k < a0.size
    · have hc : wr.cell? ⟨w.heap.size + 1, k, none⟩ = some (.int .u8 (bt a0 k)) := by
        rw [Lib.cell_of_heap hrow.out]
        exact HCS.out k hlt
      have hb := bt_range a0 k
      have HT := Lib.hid (take_flat a0 k hlt)
      generalize hg : bt a0 k = c at hc hb HT
      clear hg
      have hne : w.heap.size + 1 ≠ w.heap.size := by omega
      have hnz : (cs.size, cs.size + 1) ≠ ((0 : Nat), (0 : Nat)) := by simp
      have HNE := Lib.hid hne
      have HNZ := Lib.hid hnz
      clear hne hnz
      cases hp : plainB c
      · have HP := Lib.hid (encB_no hp)
        have g1 : 0 ≤ c / 16 ∧ c / 16 < 16 := by omega
        have g2 : 0 ≤ c % 16 ∧ c % 16 < 16 := by omega
        go_wp2_with (go_at_call 17; refine (quote_Word.plain c _ hb.1 hb.2).mono ?_; rintro e w' ⟨rfl, rfl⟩)
        refine (bld_byte _ _ _ _ _ hbld.out (by have := hlen.out; omega) hBw).mono ?_
        rintro e w1 ⟨rfl, hb1, hb2, hb3⟩
        have Hb1 := Lib.hid hb1
        have Hb2 := Lib.hid (hbel.out.trans hb2)
        have Hb3 := Lib.hid (hb3.bytes hrow.out HNE.out HNZ.out)
        have hB1 := Hb2.out.size
        clear hb1 hb2 hb3
        go_wp2_with (go_at_call 19; refine (quote_Word.digit _ _ g1.1 g1.2).mono ?_; rintro e w' ⟨rfl, rfl⟩)
        refine (bld_byte _ _ _ _ _ Hb1.out (by have := hlen.out; rw [List.length_append]; simp only [List.length_singleton]; omega) hB1).mono ?_
        rintro e w2 ⟨rfl, hb1, hb2, hb3⟩
        have Hc1 := Lib.hid hb1
        have Hc2 := Lib.hid (Hb2.out.trans hb2)
        have Hc3 := Lib.hid (hb3.bytes Hb3.out HNE.out HNZ.out)
        have hB2 := Hc2.out.size
        clear hb1 hb2 hb3
        go_wp2_with (go_at_call 19; refine (quote_Word.digit _ _ g2.1 g2.2).mono ?_; rintro e w' ⟨rfl, rfl⟩)
        refine (bld_byte _ _ _ _ _ Hc1.out (by have := hlen.out; rw [List.length_append, List.length_append]; simp only [List.length_singleton]; omega) hB2).mono ?_
        rintro e w3 ⟨rfl, hb1, hb2, hb3⟩
        have Hd1 := Lib.hid hb1
        have Hd2 := Lib.hid (Hc2.out.trans hb2)
        have Hd3 := Lib.hid (hb3.bytes Hc3.out HNE.out HNZ.out)
        clear hb1 hb2 hb3
        go_wp2
        go_roundw
        case rel => exact ⟨k + 1, by omega, by go_num, Lib.hid (by rw [HT.out, HP.out, nums_append]; have := Hd1.out; simpa [nums] using this), Hd3, Hd2⟩
        case measure => simp [intOf]; omega
      · have HP := Lib.hid (encB_yes hp)
        go_wp2_with (first | (go_at_call 17; refine (quote_Word.plain c _ hb.1 hb.2).mono ?_; rintro e w' ⟨rfl, rfl⟩) | (go_at_call 18; refine (bld_byte _ _ _ _ _ hbld.out (by have := hlen.out; omega) hBw).mono ?_; rintro e w1 ⟨rfl, hb1, hb2, hb3⟩))
        have Hb1 := Lib.hid hb1
        have Hb2 := Lib.hid (hbel.out.trans hb2)
        have Hb3 := Lib.hid (hb3.bytes hrow.out HNE.out HNZ.out)
        clear hb1 hb2 hb3
        go_roundw
        case rel => exact ⟨k + 1, by omega, by go_num, Lib.hid (by rw [HT.out, HP.out, nums_append]; exact Hb1.out), Hb3, Hb2⟩
        case measure => simp [intOf]; omega
    · go_wp2_with (go_at_call 20; refine (bld_text _ _ _ (flat_in a0 k) _ hbld.out hBw).mono ?_; rintro e w1 ⟨rfl, hb1⟩)
      go_ret
      refine ⟨ret_str ?_, hbel.out.trans hb1⟩
      rw [← hr.out, List.take_of_length_le (by rw [bytesOf_length]; omega)]

-- GIVEN rounds=0 making=1 bld
/-! ### strings.Join: out of the shelf's contract -/
def joinL (sep : List Int) : List ByteArray → List Int
  | [] => []
  | [x] => bytesOf x
  | x :: y :: r => bytesOf x ++ sep ++ joinL sep (y :: r)
def strings_Join.f (l0 : List ByteArray) (a1 : ByteArray) : Option (ByteArray) := if l0.length ≤ 140737488355328 ∧ (joinL (bytesOf a1) l0).length ≤ 140737488355328 then some (strOfNums (joinL (bytesOf a1) l0)) else none
theorem plain_addr {w : World} {ad : Addr} {u : Value} (h : w.cell? ad = some u) : ad = ⟨ad.block, ad.off, none⟩ ∧ ad.block < w.heap.size := by
  unfold World.cell? at h
  split at h
  · rename_i c e f hb
    have hlt : ad.block < w.heap.size := (Array.getElem?_eq_some_iff.1 hb).1
    cases hs : ad.spot with
    | none => exact ⟨by cases ad; simp only at hs; rw [hs], hlt⟩
    | some x => simp [hs] at h
  · simp at h
theorem add_plain' (b o j : Nat) : (⟨b, o, none⟩ : Addr).add j = ⟨b, o + j, none⟩ := by
  unfold Addr.add
  by_cases h : j = 0 <;> simp [h]
theorem joinL_eq (sep : ByteArray) : ∀ l : List ByteArray, strOfNums (joinL (bytesOf sep) l) = ⟨(Lib.join (l.map (·.data.toList)) sep.data.toList).toArray⟩ := by
  have str : ∀ l : List UInt8, strOfNums (l.map fun b => (b.toNat : Int)) = ⟨l.toArray⟩ := fun l => by
    unfold strOfNums
    rw [List.map_map]
    congr 2
    conv => rhs; rw [← List.map_id l]
    exact List.map_congr_left fun b _ => by simp
  have key : ∀ l : List ByteArray, joinL (bytesOf sep) l = (Lib.join (l.map (·.data.toList)) sep.data.toList).map fun b => (b.toNat : Int) := by
    intro l
    induction l with
    | nil => rfl
    | cons x l ih =>
      cases l with
      | nil =>
        rw [List.map_cons, List.map_nil, Lib.join_one]
        rfl
      | cons y r =>
        rw [List.map_cons, List.map_cons, Lib.join_cons]
        show bytesOf x ++ bytesOf sep ++ joinL (bytesOf sep) (y :: r) = _
        rw [ih, List.map_cons, Lib.join_cons]
        simp [Lib.joinTail, bytesOf]
  intro l
  rw [key, str]
theorem strings_Join.calls (A0 : Option Addr) (c0 : Nat) (l0 : List (ByteArray)) (a1 : ByteArray) (r : ByteArray) (w : World) (hr0 : Kd.C Kd.string w A0 l0.length l0) (hc0 : l0.length ≤ c0) (h : strings_Join.f l0 a1 = some r) :
    Calls Tryd.prog 14 #[.slice A0 l0.length c0, .string a1] w fun e w' => e = .returned (.string r) ∧ Below w.heap.size w w' := by
  unfold strings_Join.f at h
  by_cases hb : l0.length ≤ 140737488355328 ∧ (joinL (bytesOf a1) l0).length ≤ 140737488355328
  case neg => rw [if_neg hb] at h; cases h
  rw [if_pos hb] at h
  obtain rfl := Option.some.inj h
  match l0, hr0, hc0, hb with
  | [], hr0, hc0, hb =>
    refine (Tryd.strings_Join_none A0 c0 a1 w).mono ?_
    rintro e w' ⟨rfl, rfl⟩
    exact ⟨rfl, Below.refl _ _⟩
  | x :: l, hr0, hc0, hb =>
    obtain ⟨ad, rfl, hcell⟩ := hr0.2.2 (by simp)
    have one : ∀ (j : Nat) y, (x :: l)[j]? = some y → w.cell? (ad.add j) = some (.string y) := by
      intro j y hj
      obtain ⟨c, h1, h2, h3⟩ := hcell j y hj
      have h4 : c = [.string y] := h2
      have := h3 0 (.string y) (by rw [h4]; rfl)
      simpa [Kd.string, Kd.scalar] using this
    obtain ⟨h5, h6⟩ := plain_addr (one 0 x rfl)
    have h7 : ad = ⟨ad.block, ad.off, none⟩ := by
      have : ad.add 0 = ad := by simp [Addr.add]
      rw [this] at h5
      exact h5
    rw [joinL_eq]
    have hlen : (Lib.join ((x :: l).map (·.data.toList)) a1.data.toList).length ≤ 140737488355328 := by
      have h8 := congrArg ByteArray.size (joinL_eq a1 (x :: l))
      have h9 : (strOfNums (joinL (bytesOf a1) (x :: l))).size = (joinL (bytesOf a1) (x :: l)).length := by
        show (List.map _ _).toArray.size = _
        simp
      rw [h9] at h8
      have h10 : (⟨(Lib.join ((x :: l).map (·.data.toList)) a1.data.toList).toArray⟩ : ByteArray).size = (Lib.join ((x :: l).map (·.data.toList)) a1.data.toList).length := by
        show (List.toArray _).size = _
        simp
      rw [h10] at h8
      omega
    rw [h7]
    refine (Tryd.strings_Join ad.block ad.off c0 (x :: l) a1 w (fun j y hj => ?_) ?_ hb.1 hc0 hlen).mono ?_
    · have := one j y hj
      rw [h7, add_plain'] at this
      exact this
    · have : ad.add 0 = ad := by simp [Addr.add]
      rw [this] at h6
      exact h6
    · rintro e w' ⟨rfl, hbl⟩
      exact ⟨rfl, hbl⟩

/-! ### quote_Line: function 7 -/
def quote_Line.l0 : Nat → List ByteArray → List ByteArray → Int → Int → Option (ByteArray)
  | 0, _, _, _, _ => none
  | k + 1, x3, x9, x10, x11 => if x11 < x10 then (if 0 ≤ x11 then (if x11 < (x9.length : Int) then ((quote_Word.f (rdOf ByteArray.empty x9 x11)).bind fun t105 => (if x11 < (x3.length : Int) then (quote_Line.l0 k (x3.set (x11 : Int).toNat t105) x9 x10 (wrap64 (x11 + 1))) else (none))) else (none)) else (none)) else ((strings_Join.f x3 (⟨#[32]⟩ : ByteArray)).bind fun t107 => (some t107))
def quote_Line.f (k : Nat) (l0 : List ByteArray) : Option (ByteArray) := if 0 ≤ (l0.length : Int) then (if ((l0.length : Int) : Int).toNat ≤ 17592186044416 then (quote_Line.l0 k (List.replicate ((l0.length : Int) : Int).toNat (⟨#[]⟩ : ByteArray)) l0 (l0.length : Int) 0) else (none)) else (none)
theorem quote_Line.mono_l : ∀ k, (∀ y0 y1 y2 y3, LeO (quote_Line.l0 k y0 y1 y2 y3) (quote_Line.l0 (k + 1) y0 y1 y2 y3))
  | 0 => fun _ _ _ _ r h => by simp [quote_Line.l0] at h
  | k + 1 => by
    have ih0 := quote_Line.mono_l k
    · intro y0 y1 y2 y3
      unfold quote_Line.l0
      repeat' first
      | (with_reducible exact ih0 _ _ _ _)
      | (with_reducible exact LeO.refl _)
      | (with_reducible exact LeO.none _)
      | (with_reducible refine LeO.ite ?_ ?_)
      | (with_reducible refine LeO.bind ?_ (fun _ => ?_))
      | exact ih0 _ _ _ _
      | exact LeO.none _
      | refine LeO.ite ?_ ?_
      | refine LeO.bind ?_ (fun _ => ?_)
theorem quote_Line.mono : ∀ a0 k, LeO (quote_Line.f k a0) (quote_Line.f (k + 1) a0) := by
  intro a0 k
  have ih0 := quote_Line.mono_l k
  unfold quote_Line.f
  repeat' first
      | (with_reducible exact ih0 _ _ _ _)
      | (with_reducible exact LeO.refl _)
      | (with_reducible exact LeO.none _)
      | (with_reducible refine LeO.ite ?_ ?_)
      | (with_reducible refine LeO.bind ?_ (fun _ => ?_))
      | exact ih0 _ _ _ _
      | exact LeO.none _
      | refine LeO.ite ?_ ?_
      | refine LeO.bind ?_ (fun _ => ?_)
set_option maxHeartbeats 8000000 in
set_option maxRecDepth 100000 in
theorem quote_Line.calls (k : Nat) (A0 : Option Addr) (c0 : Nat) (l0 : List ByteArray) (r : ByteArray) (w : World) (hr0 : Kd.C Kd.string w A0 l0.length l0) (hc0 : l0.length ≤ c0) (h : quote_Line.f k l0 = some r) :
    Calls Tryd.prog 7 #[.slice A0 l0.length c0] w fun e w' => e = .returned (.string r) ∧ Below w.heap.size w w' := by
  have HR0 := Aside0.mk hr0
  have HC0 := Aside0.mk hc0
  clear hr0 hc0
  have HB := Aside0.mk (Below.refl w.heap.size w)
  have H : (if 0 ≤ (l0.length : Int) then (if ((l0.length : Int) : Int).toNat ≤ 17592186044416 then (quote_Line.l0 k (List.replicate ((l0.length : Int) : Int).toNat (⟨#[]⟩ : ByteArray)) l0 (l0.length : Int) 0) else (none)) else (none)) = some r := h
  clear h
  by_cases c2 : 0 ≤ (l0.length : Int)
  · rw [if_pos c2] at H
    have c2b0 := eq_true c2
    have c2b1 : decide (0 ≤ (l0.length : Int)) = true := decide_eq_true c2
    clear c2
    by_cases c3 : ((l0.length : Int) : Int).toNat ≤ 17592186044416
    · rw [if_pos c3] at H
      have c3b0 := eq_true c3
      have c3b1 : decide (((l0.length : Int) : Int).toNat ≤ 17592186044416) = true := decide_eq_true c3
      clear c3
      obtain ⟨y101, hy101⟩ : ∃ y_ : List ByteArray, y_ = (List.replicate ((l0.length : Int) : Int).toNat (⟨#[]⟩ : ByteArray)) := ⟨_, rfl⟩
      replace H : (quote_Line.l0 k y101 l0 (l0.length : Int) 0) = some r := by first | (rw [hy101]; with_reducible exact H) | (have H2_ := (Option.bind_some _ _).symm.trans H; rw [hy101]; with_reducible exact H2_) | (have H2_ := (Option.bind_some _ _).symm.trans H; with_reducible exact H2_) | with_reducible exact H | (rw [hy101]; exact H) | exact H
      have Ny101 := Aside0.mk hy101
      clear hy101
      have H' := Aside0.mk H
      clear H
      go_enter Tryd.func7, Tryd.ntmps7
      go_wp2_with (first | ((with_reducible refine gate_dst (N := 8) rfl ?_); refine Kd.R_make Kd.string _ 9 rfl (N := 8) rfl 22 _ _ rfl (l0.length : Int) rfl rfl Tryd.underlying22 (.string ⟨#[]⟩) 16 info9 rfl (by decide) (by omega) (⟨#[]⟩ : ByteArray) (ok := fun _ => True) (okp := fun _ => True) rfl (fun _ hk => hk) trivial (of_decide_eq_true (by first | (with_reducible assumption) | assumption)) (Nat.le_trans (Nat.mul_le_mul_right _ (of_decide_eq_true (by first | (with_reducible assumption) | assumption) : (l0.length : Int).toNat ≤ 17592186044416)) (by omega)) (Below.refl _ _) (Nat.le_refl _) ?_; intro v102 w4 ho5 hb hg_ hnew_; clear hg_ hnew_; (first | rw [← Ny101.out] at ho5 | (simp only [Int.reduceToNat] at ho5; rw [← Ny101.out] at ho5)); have n0_ := Aside0.mk (Kd.R_lower ho5 (below_size (by repeat (first | (with_reducible first | exact HB.out | apply below_alloc | apply pw_below_drewN | apply below_drew1) | exact HB.out)))); have n1_ := Aside0.mk (below_step (by repeat (first | (with_reducible first | exact HB.out | apply below_alloc | apply pw_below_drewN | apply below_drew1) | exact HB.out)) hb); clear HB; have HO103 := n0_; have HB := n1_; clear n0_ n1_; clear hb ho5))
      go_loopg [11] k (fun kq v11 w' => ∃ (x3_1 : List ByteArray) (x11_1 : Int), v11 = .int .i64 x11_1 ∧ Aside0 (quote_Line.l0 kq x3_1 l0 (l0.length : Int) x11_1 = some r) ∧ Aside0 (kq ≤ k) ∧ Aside0 (Kd.R Kd.string 9 w' w.heap.size (fun _ => True) v102 x3_1) ∧ Aside0 (Below w.heap.size w w'))
      case atStart => exact ⟨(y101), (0), (by first | rfl | (simp; done) | (simp [*]; done) | exact isEmpty_bne _), H', ⟨Nat.le_refl _⟩, ⟨by (with_reducible repeat (first | apply Kd.R_alloc | apply Kd.R_drewN | apply Kd.R_drew)); exact HO103.out⟩, ⟨by repeat (first | (with_reducible first | exact HB.out | apply below_alloc | apply pw_below_drewN | apply below_drew1) | exact HB.out)⟩⟩
      case round =>
        clear H'
        try clear c2
        try clear c2b0
        try clear c2b1
        try clear p2
        try clear c3
        try clear c3b0
        try clear c3b1
        obtain ⟨x3_1, x11_1, rfl, HA, HK1, HO_3, HB⟩ := hrel
        cases gk with
        | zero => exact absurd HA.out (by simp [quote_Line.l0])
        | succ k1 =>
          have H := HA.out
          clear HA
          simp only [quote_Line.l0] at H
          by_cases c6 : x11_1 < (l0.length : Int)
          · rw [if_pos c6] at H
            have c6b0 : decide (x11_1 < (l0.length : Int)) = true := decide_eq_true c6
            clear c6
            by_cases c7 : 0 ≤ x11_1
            · rw [if_pos c7] at H
              have c7b0 : decide (0 ≤ x11_1) = true := decide_eq_true c7
              clear c7
              by_cases c8 : x11_1 < (l0.length : Int)
              · rw [if_pos c8] at H
                have c8b0 : decide (x11_1 < (l0.length : Int)) = true := decide_eq_true c8
                clear c8
                replace H := Option.bind_eq_some_iff.mp H
                obtain ⟨t105, A90, H⟩ := H
                replace H : (if x11_1 < (x3_1.length : Int) then (quote_Line.l0 k1 (x3_1.set (x11_1 : Int).toNat t105) l0 (l0.length : Int) (wrap64 (x11_1 + 1))) else (none)) = some r := H
                have A9 := Aside0.mk A90
                clear A90
                by_cases c10 : x11_1 < (x3_1.length : Int)
                · rw [if_pos c10] at H
                  have c10b0 : decide (x11_1 < (x3_1.length : Int)) = true := decide_eq_true c10
                  clear c10
                  obtain ⟨y106, hy106⟩ : ∃ y_ : List ByteArray, y_ = (x3_1.set (x11_1 : Int).toNat t105) := ⟨_, rfl⟩
                  replace H : (quote_Line.l0 k1 y106 l0 (l0.length : Int) (wrap64 (x11_1 + 1))) = some r := by first | (rw [hy106]; with_reducible exact H) | (have H2_ := (Option.bind_some _ _).symm.trans H; rw [hy106]; with_reducible exact H2_) | (have H2_ := (Option.bind_some _ _).symm.trans H; with_reducible exact H2_) | with_reducible exact H | (rw [hy106]; exact H) | exact H
                  have Ny106 := Aside0.mk hy106
                  clear hy106
                  have H' := Aside0.mk H
                  clear H
                  have p104 : 0 ≤ (x11_1 : Int) := of_decide_eq_true (by first | (with_reducible assumption) | assumption)
                  have q104 : x11_1 < (l0.length : Int) := of_decide_eq_true (by first | (with_reducible assumption) | assumption)
                  obtain ⟨ad104, e104, hx104_0⟩ := Kd.at_string HR0.out x11_1 p104 q104
                  cases e104
                  replace hx104_0 := (HB.out.cell (World.block_lt_of_cell? w _ hx104_0)).trans hx104_0
                  replace p104 := eq_true p104
                  replace q104 := eq_true q104
                  go_wp2_with (first | ((with_reducible refine gate_callee (f := 11) rfl ?_); refine goesL_ (some 19) rfl rfl Tryd.func11 (by kernel_rfl) rfl #[.string (rdOf ByteArray.empty l0 x11_1)] rfl (by (try simp only [List.map_toArray, List.map_cons, List.map_nil]); first | done | rfl | (simp only [List.length_drop, List.length_take]; rfl)) ?_; (with_reducible refine (quote_Word.calls (rdOf ByteArray.empty l0 x11_1) t105 _ A9.out).mono ?_); rintro e w12 ⟨rfl, hb⟩; refine ⟨_, rfl, ?_⟩; have n0_ := Aside0.mk (Kd.R_below (by (with_reducible repeat (first | apply Kd.R_alloc | apply Kd.R_drewN | apply Kd.R_drew)); exact HO_3.out) hb); have n1_ := Aside0.mk (below_step (by repeat (first | (with_reducible first | exact HB.out | apply below_alloc | apply pw_below_drewN | apply below_drew1) | exact HB.out)) hb); clear HO_3; clear HB; have HO_3 := n0_; have HB := n1_; clear n0_ n1_; (try clear hb); (try clear hb2); (try clear hk); (try clear hi); have p11 : 0 ≤ (x11_1 : Int) := of_decide_eq_true (by first | (with_reducible assumption) | assumption); have q11 : (x11_1 : Int) < ((x3_1.length : Int) : Int) := of_decide_eq_true (by first | (with_reducible assumption) | assumption); obtain ⟨go11, co11, eo11, gb11, gl11, cl11, HG11⟩ := Kd.R_form HO_3.out (by omega); (first | cases eo11 | (injection eo11 with ea_ en_ ec_; (first | subst ea_ | (injection ea_ with ea_; subst ea_)); subst ec_; clear en_)); have GB11 := Aside0.mk gb11; have GG11 := Aside0.mk HG11; clear gb11 gl11 HG11; obtain ⟨hx11_0, hf11_0⟩ := Kd.R_celln (⟨#[]⟩ : ByteArray) HO_3.out (x11_1 : Int) p11 q11; replace p11 := eq_true p11; replace q11 := eq_true q11; obtain ⟨hy13_, hz13_⟩ := Kd.R_celln (⟨#[]⟩ : ByteArray) HO_3.out (x11_1 : Int) (of_decide_eq_true (by first | (with_reducible assumption) | assumption)) (of_decide_eq_true (by first | (with_reducible assumption) | assumption)); have HP13 := Kd.R_putg HO_3.out (x11_1 : Int) t105) | ((with_reducible refine gate_store (t := 9) (p := 20) rfl ?_); refine store_event (t := 9) (p := 20) (v := ?vo_w14) (w1 := (w12.setCell ⟨go11, (x11_1 : Int).toNat, none⟩ (.string t105))) ?hg ?ho ?hn ?hr ?_; (case ho => rfl); (case hg => rfl); (case hn => rfl); (case hr => first | (go_simp; done) | (go_simp; rfl)); intro w14 hw; have hg : w12.grownBy w14 (some go11) := (by rw [hw]; exact HP13.2); (try (have ln_w14 := congrArg List.length Ny106.out; rw [List.length_set] at ln_w14)); have hp_ : Kd.R Kd.string 9 w14 w.heap.size (fun _ => True) (.slice (some ⟨go11, 0, none⟩) x3_1.length co11) y106 := (by rw [hw, Ny106.out]; exact HP13.1); clear HP13; have n0_ := Aside0.mk (hp_); have n1_ := Aside0.mk ((by rw [hw]; exact below_set (HB.out) GB11.out : Below w.heap.size w w14)); clear HO_3; clear HB; have HO_3 := n0_; have HB := n1_; clear n0_ n1_; clear hg hw hp_))
                  go_roundg k1
                  case measure => have := HK1.out; omega
                  case rel => exact ⟨(y106), (wrap64 (x11_1 + 1)), (by first | rfl | (simp; done) | (simp [*]; done) | exact isEmpty_bne _), H', ⟨by have := HK1.out; omega⟩, ⟨by (with_reducible repeat (first | apply Kd.R_alloc | apply Kd.R_drewN | apply Kd.R_drew)); exact HO_3.out⟩, ⟨by repeat (first | (with_reducible first | exact HB.out | apply below_alloc | apply pw_below_drewN | apply below_drew1) | exact HB.out)⟩⟩
                · rw [if_neg c10] at H
                  exact absurd H (by simp)
              · rw [if_neg c8] at H
                exact absurd H (by simp)
            · rw [if_neg c7] at H
              exact absurd H (by simp)
          · rw [if_neg c6] at H
            have c6b0 : decide (x11_1 < (l0.length : Int)) = false := decide_eq_false c6
            clear c6
            replace H := Option.bind_eq_some_iff.mp H
            obtain ⟨t107, A150, H⟩ := H
            replace H : (some t107) = some r := H
            have A15 := Aside0.mk A150
            clear A150
            obtain rfl := Option.some.inj H
            obtain ⟨Ao16, co16, eo16⟩ := Kd.R_slice HO_3.out
            subst eo16
            go_wp2_with (first | ((with_reducible refine gate_callee (f := 14) rfl ?_); refine goesL_ (some 23) rfl rfl Tryd.func14 (by kernel_rfl) rfl #[.slice Ao16 x3_1.length co16, .string (⟨#[32]⟩ : ByteArray)] rfl (by (try simp only [List.map_toArray, List.map_cons, List.map_nil]); first | done | rfl | (simp only [List.length_drop, List.length_take]; rfl)) ?_; (with_reducible refine (strings_Join.calls _ _ x3_1 (⟨#[32]⟩ : ByteArray) t107 _ ?side1 ?side2 A15.out).mono ?_); (case side1 => repeat (first | exact (Kd.R_reads' HO_3.out).2.2 | (with_reducible refine Kd.C_alloc ?_ _) | (with_reducible refine Kd.C_drewN ?_ _) | (with_reducible refine Kd.C_drew ?_))); (case side2 => exact (Kd.R_reads' HO_3.out).2.1); rintro e w17 ⟨rfl, hb⟩; refine ⟨_, rfl, ?_⟩; have n0_ := Aside0.mk (Kd.R_below (by (with_reducible repeat (first | apply Kd.R_alloc | apply Kd.R_drewN | apply Kd.R_drew)); exact HO_3.out) hb); have n1_ := Aside0.mk (below_step (by repeat (first | (with_reducible first | exact HB.out | apply below_alloc | apply pw_below_drewN | apply below_drew1) | exact HB.out)) hb); clear HO_3; clear HB; have HO_3 := n0_; have HB := n1_; clear n0_ n1_; (try clear hb); (try clear hb2); (try clear hk); (try clear hi)))
            go_ret
            exact ⟨by first | rfl | (simp [errW_none, errW_some] <;> rfl) | (simp [*, errW_none, errW_some] <;> rfl), by repeat (first | (with_reducible first | exact HB.out | apply below_alloc | apply pw_below_drewN | apply below_drew1) | exact HB.out)⟩
    · rw [if_neg c3] at H
      exact absurd H (by simp)
  · rw [if_neg c2] at H
    exact absurd H (by simp)

/-! ### logbooklaw31_awake: function 5 -/
def logbooklaw31_awake.f (k : Nat)  : Option (Bool) := (quote_Word.f (⟨#[97, 32, 98]⟩ : ByteArray)).bind fun t108 => (if t108.toList = ([97, 37, 50, 48, 98] : List UInt8) then ((quote_Line.f k (([(⟨#[65, 61, 49]⟩ : ByteArray), (⟨#[]⟩ : ByteArray)] : List ByteArray))).bind fun t112 => (some (t112.toList == ([65, 61, 49, 32, 37] : List UInt8)))) else (some false))
theorem logbooklaw31_awake.mono : ∀ k, LeO (logbooklaw31_awake.f k ) (logbooklaw31_awake.f (k + 1) ) := by
  intro  k
  unfold logbooklaw31_awake.f
  repeat' first
      | (with_reducible exact quote_Line.mono _ _)
      | (with_reducible exact LeO.refl _)
      | (with_reducible exact LeO.none _)
      | (with_reducible refine LeO.ite ?_ ?_)
      | (with_reducible refine LeO.bind ?_ (fun _ => ?_))
      | exact quote_Line.mono _ _
      | exact LeO.none _
      | refine LeO.ite ?_ ?_
      | refine LeO.bind ?_ (fun _ => ?_)
set_option maxHeartbeats 8000000 in
set_option maxRecDepth 100000 in
theorem logbooklaw31_awake.calls (k : Nat)  (r : Bool) (w : World) (h : logbooklaw31_awake.f k  = some r) :
    Calls Tryd.prog 5 #[] w fun e w' => e = .returned (.bool r) ∧ Below w.heap.size w w' := by
  have HB := Aside0.mk (Below.refl w.heap.size w)
  have H : ((quote_Word.f (⟨#[97, 32, 98]⟩ : ByteArray)).bind fun t108 => (if t108.toList = ([97, 37, 50, 48, 98] : List UInt8) then ((quote_Line.f k (([(⟨#[65, 61, 49]⟩ : ByteArray), (⟨#[]⟩ : ByteArray)] : List ByteArray))).bind fun t112 => (some (t112.toList == ([65, 61, 49, 32, 37] : List UInt8)))) else (some false))) = some r := h
  clear h
  replace H := Option.bind_eq_some_iff.mp H
  obtain ⟨t108, A10, H⟩ := H
  replace H : (if t108.toList = ([97, 37, 50, 48, 98] : List UInt8) then ((quote_Line.f k (([(⟨#[65, 61, 49]⟩ : ByteArray), (⟨#[]⟩ : ByteArray)] : List ByteArray))).bind fun t112 => (some (t112.toList == ([65, 61, 49, 32, 37] : List UInt8)))) else (some false)) = some r := H
  have A1 := Aside0.mk A10
  clear A10
  by_cases c2 : t108.toList = ([97, 37, 50, 48, 98] : List UInt8)
  · rw [if_pos c2] at H
    have c2b0 : (t108.toList == ([97, 37, 50, 48, 98] : List UInt8)) = true := beq_iff_eq.mpr c2
    have c2b1 : (t108.toList != ([97, 37, 50, 48, 98] : List UInt8)) = false := bne_eq_false_iff_eq.mpr c2
    clear c2
    obtain ⟨y109, hy109⟩ : ∃ y_ : List ByteArray, y_ = (([(⟨#[65, 61, 49]⟩ : ByteArray), (⟨#[]⟩ : ByteArray)] : List ByteArray)) := ⟨_, rfl⟩
    replace H : ((quote_Line.f k y109).bind fun t112 => (some (t112.toList == ([65, 61, 49, 32, 37] : List UInt8)))) = some r := by first | (rw [hy109]; with_reducible exact H) | (have H2_ := (Option.bind_some _ _).symm.trans H; rw [hy109]; with_reducible exact H2_) | (have H2_ := (Option.bind_some _ _).symm.trans H; with_reducible exact H2_) | with_reducible exact H | (rw [hy109]; exact H) | exact H
    have Ny109 := Aside0.mk hy109
    clear hy109
    replace H := Option.bind_eq_some_iff.mp H
    obtain ⟨t112, A30, H⟩ := H
    replace H : (some (t112.toList == ([65, 61, 49, 32, 37] : List UInt8))) = some r := H
    have A3 := Aside0.mk A30
    clear A30
    obtain rfl := Option.some.inj H
    go_enter Tryd.func5, Tryd.ntmps5
    go_wp2_with (first | ((with_reducible refine gate_callee (f := 11) rfl ?_); refine goesL_ (some 1) rfl rfl Tryd.func11 (by kernel_rfl) rfl #[.string (⟨#[97, 32, 98]⟩ : ByteArray)] rfl (by (try simp only [List.map_toArray, List.map_cons, List.map_nil]); first | done | rfl | (simp only [List.length_drop, List.length_take]; rfl)) ?_; (with_reducible refine (quote_Word.calls (⟨#[97, 32, 98]⟩ : ByteArray) t108 _ A1.out).mono ?_); rintro e w4 ⟨rfl, hb⟩; refine ⟨_, rfl, ?_⟩; have n0_ := Aside0.mk (below_step (by repeat (first | (with_reducible first | exact HB.out | apply below_alloc | apply pw_below_drewN | apply below_drew1) | exact HB.out)) hb); clear HB; have HB := n0_; clear n0_; (try clear hb); (try clear hb2); (try clear hk); (try clear hi)) | ((with_reducible refine gate_dst (N := 4) rfl ?_); (try (refine gate_guard (by rfl) ?_; dsimp only)); refine Kd.R_lit Kd.string _ 9 ?hg (N := 4) ?hd (xs := ([(⟨#[65, 61, 49]⟩ : ByteArray), (⟨#[]⟩ : ByteArray)] : List ByteArray)) (inner := [.string (⟨#[65, 61, 49]⟩ : ByteArray), .string (⟨#[]⟩ : ByteArray)]) (ok := fun _ => True) (okp := fun _ => True) ?hr ?hp (fun _ hk => hk) trivial (Below.refl _ _) (Nat.le_refl _) (by simp) ?_; (case hd => rfl); (case hg => rfl); (case hr => first | (go_simp; done) | (go_simp; rfl)); (case hp => exact (Reps.one (show Kd.M Kd.string _ _ _ (⟨#[65, 61, 49]⟩ : ByteArray) [.string (⟨#[65, 61, 49]⟩ : ByteArray)] from rfl) (Reps.one (show Kd.M Kd.string _ _ _ (⟨#[]⟩ : ByteArray) [.string (⟨#[]⟩ : ByteArray)] from rfl) (Reps.none _ _)))); intro v110 w5 ho6 hb hg_ hnew_; clear hg_ hnew_; (first | rw [← Ny109.out] at ho6 | (simp only [Int.reduceToNat] at ho6; rw [← Ny109.out] at ho6)); have n0_ := Aside0.mk (Kd.R_lower ho6 (below_size (by repeat (first | (with_reducible first | exact HB.out | apply below_alloc | apply pw_below_drewN | apply below_drew1) | exact HB.out)))); have n1_ := Aside0.mk (below_step (by repeat (first | (with_reducible first | exact HB.out | apply below_alloc | apply pw_below_drewN | apply below_drew1) | exact HB.out)) hb); clear HB; have HO111 := n0_; have HB := n1_; clear n0_ n1_; clear hb ho6; obtain ⟨Ao7, co7, eo7⟩ := Kd.R_slice HO111.out; subst eo7) | (go_at_call 7; (with_reducible refine (quote_Line.calls k _ _ y109 t112 _ ?side1 ?side2 A3.out).mono ?_); (case side1 => repeat (first | exact (Kd.R_reads' HO111.out).2.2 | (with_reducible refine Kd.C_alloc ?_ _) | (with_reducible refine Kd.C_drewN ?_ _) | (with_reducible refine Kd.C_drew ?_))); (case side2 => exact (Kd.R_reads' HO111.out).2.1); rintro e w8 ⟨rfl, hb⟩; have n0_ := Aside0.mk (Kd.R_below (by (with_reducible repeat (first | apply Kd.R_alloc | apply Kd.R_drewN | apply Kd.R_drew)); exact HO111.out) hb); have n1_ := Aside0.mk (below_step (by repeat (first | (with_reducible first | exact HB.out | apply below_alloc | apply pw_below_drewN | apply below_drew1) | exact HB.out)) hb); clear HO111; clear HB; have HO111 := n0_; have HB := n1_; clear n0_ n1_; (try clear hb); (try clear hb2); (try clear hk); (try clear hi)))
    go_ret
    exact ⟨by first | rfl | (simp [errW_none, errW_some] <;> rfl) | (simp [*, errW_none, errW_some] <;> rfl), by repeat (first | (with_reducible first | exact HB.out | apply below_alloc | apply pw_below_drewN | apply below_drew1) | exact HB.out)⟩
  · rw [if_neg c2] at H
    have c2b0 : (t108.toList == ([97, 37, 50, 48, 98] : List UInt8)) = false := beq_eq_false_iff_ne.mpr c2
    have c2b1 : (t108.toList != ([97, 37, 50, 48, 98] : List UInt8)) = true := bne_iff_ne.mpr c2
    obtain rfl := Option.some.inj H
    go_enter Tryd.func5, Tryd.ntmps5
    go_wp2_with (first | ((with_reducible refine gate_callee (f := 11) rfl ?_); refine goesL_ (some 1) rfl rfl Tryd.func11 (by kernel_rfl) rfl #[.string (⟨#[97, 32, 98]⟩ : ByteArray)] rfl (by (try simp only [List.map_toArray, List.map_cons, List.map_nil]); first | done | rfl | (simp only [List.length_drop, List.length_take]; rfl)) ?_; (with_reducible refine (quote_Word.calls (⟨#[97, 32, 98]⟩ : ByteArray) t108 _ A1.out).mono ?_); rintro e w9 ⟨rfl, hb⟩; refine ⟨_, rfl, ?_⟩; have n0_ := Aside0.mk (below_step (by repeat (first | (with_reducible first | exact HB.out | apply below_alloc | apply pw_below_drewN | apply below_drew1) | exact HB.out)) hb); clear HB; have HB := n0_; clear n0_; (try clear hb); (try clear hb2); (try clear hk); (try clear hi)))
    go_ret
    exact ⟨by first | rfl | (simp [errW_none, errW_some] <;> rfl) | (simp [*, errW_none, errW_some] <;> rfl), by repeat (first | (with_reducible first | exact HB.out | apply below_alloc | apply pw_below_drewN | apply below_drew1) | exact HB.out)⟩

-- GIVEN rounds=0 making=1
/-! ### strings.explode: never reached by a separator of one byte: nothing is said of it -/
def strings_explode.f (a0 : ByteArray) (a1 : Int) : Option (List ByteArray) := none
theorem strings_explode.calls (a0 : ByteArray) (a1 : Int) (r : List ByteArray) (w : World) (h : strings_explode.f a0 a1 = some r) :
    Calls Tryd.prog 27 #[.string a0, .int .i64 a1] w fun e w' => ∃ v0_ : Value, e = .returned v0_ ∧ Kd.R Kd.string 9 w' w.heap.size (fun _ => True) v0_ r ∧ Below w.heap.size w w' := by
  cases h

-- GIVEN rounds=0 making=0
/-! ### strings.Count: by hand: what is sought is one byte -/
def strings_Count.f (a0 : ByteArray) (a1 : ByteArray) : Option (Int) := if a1.size = 1 then some ((Lib.countByte a0.data.toList (a1.data.toList.getD 0 0) : Nat) : Int) else none
set_option maxHeartbeats 1600000 in
theorem strings_Count.calls (a0 : ByteArray) (a1 : ByteArray) (r : Int) (w : World) (h : strings_Count.f a0 a1 = some r) :
    Calls Tryd.prog 28 #[.string a0, .string a1] w fun e w' => e = .returned (.int .i64 r) ∧ Drawn0 w w' := by
  unfold strings_Count.f at h
  by_cases hn : a1.size = 1
  case neg => rw [if_neg hn] at h; cases h
  rw [if_pos hn] at h
  obtain ⟨c, rfl⟩ : ∃ c : UInt8, a1 = ⟨#[c]⟩ := by
    obtain ⟨⟨l⟩⟩ := a1
    match l, hn with
    | [x], _ => exact ⟨x, rfl⟩
  obtain rfl : ((Lib.countByte a0.data.toList c : Nat) : Int) = r := Option.some.inj h
  clear h hn
  go_enter Tryd.func28, Tryd.ntmps28
  go_wp2
  rw [run_callFunc_extern Tryd.func34 (by kernel_rfl) (by kernel_rfl) (by kernel_rfl) (e := Extern.BytealgCount.count) (by kernel_rfl), Lib.run_countString]
  simp only [Result.andThen]
  rw [Oper.upon_value]
  go_wp2
  go_ret
  exact ⟨by simp; rfl, Drawn0.refl _⟩

-- GIVEN rounds=0 making=0
/-! ### internal/stringslite.Index: by hand: what is sought is one byte -/
def stringslite_Index.f (a0 : ByteArray) (a1 : ByteArray) : Option (Int) := if a1.size = 1 then some (Lib.indexByte a0.data.toList (a1.data.toList.getD 0 0)) else none
theorem stringslite_Index.byte (a0 : ByteArray) (a1 : Int) (w : World) :
    Calls Tryd.prog 38 #[.string a0, .int .u8 a1] w fun e w' => e = .returned (.int .i64 (Lib.indexByte a0.data.toList a1.toNat.toUInt8)) ∧ Drawn0 w w' := by
  go_enter Tryd.func38, Tryd.ntmps38
  go_wp2
  rw [run_callFunc_extern Tryd.func42 (by kernel_rfl) (by kernel_rfl) (by kernel_rfl) (e := Extern.BytealgIndexByte.indexByte) (by kernel_rfl), Lib.run_indexByteString]
  simp only [Result.andThen]
  rw [Oper.upon_value]
  go_wp2
  go_ret
  exact ⟨rfl, Drawn0.refl _⟩
set_option maxHeartbeats 1600000 in
theorem stringslite_Index.calls (a0 : ByteArray) (a1 : ByteArray) (r : Int) (w : World) (h : stringslite_Index.f a0 a1 = some r) :
    Calls Tryd.prog 35 #[.string a0, .string a1] w fun e w' => e = .returned (.int .i64 r) ∧ Drawn0 w w' := by
  unfold stringslite_Index.f at h
  by_cases hn : a1.size = 1
  case neg => rw [if_neg hn] at h; cases h
  rw [if_pos hn] at h
  obtain ⟨c, rfl⟩ : ∃ c : UInt8, a1 = ⟨#[c]⟩ := by
    obtain ⟨⟨l⟩⟩ := a1
    match l, hn with
    | [x], _ => exact ⟨x, rfl⟩
  obtain rfl : Lib.indexByte a0.data.toList c = r := Option.some.inj h
  clear h hn
  go_enter Tryd.func35, Tryd.ntmps35
  go_wp2_with (go_at_call 38; refine (stringslite_Index.byte _ _ _).mono ?_; rintro e w' ⟨rfl, hd⟩)
  · have h : ([c] == a0.toList) = true := by assumption
    go_ret
    refine ⟨?_, Drawn0.refl _⟩
    have e : a0.data.toList = [c] := by rw [← ByteArray.toList_eq]; exact (beq_iff_eq.1 h).symm
    rw [e]
    simp [Lib.indexByte]
  · go_ret
    exact ⟨rfl, hd⟩

/-! ### strings_Index: function 29 -/
def strings_Index.f (a0 : ByteArray) (a1 : ByteArray) : Option (Int) := (stringslite_Index.f a0 a1).bind fun t113 => (some t113)
set_option maxHeartbeats 8000000 in
set_option maxRecDepth 100000 in
theorem strings_Index.calls (a0 : ByteArray) (a1 : ByteArray) (r : Int) (w : World) (h : strings_Index.f a0 a1 = some r) :
    Calls Tryd.prog 29 #[.string a0, .string a1] w fun e w' => e = .returned (.int .i64 r) ∧ Drawn0 w w' := by
  have H : ((stringslite_Index.f a0 a1).bind fun t113 => (some t113)) = some r := h
  clear h
  replace H := Option.bind_eq_some_iff.mp H
  obtain ⟨t113, A30, H⟩ := H
  replace H : (some t113) = some r := H
  have A3 := Aside0.mk A30
  clear A30
  obtain rfl := Option.some.inj H
  go_enter Tryd.func29, Tryd.ntmps29
  go_wp2_with (first | ((with_reducible refine gate_callee (f := 35) rfl ?_); refine goesL_ (some 7) rfl rfl Tryd.func35 (by kernel_rfl) rfl #[.string a0, .string a1] rfl (by (try simp only [List.map_toArray, List.map_cons, List.map_nil]); first | done | rfl | (simp only [List.length_drop, List.length_take]; rfl)) ?_; (with_reducible refine (stringslite_Index.calls a0 a1 t113 _ A3.out).mono ?_); rintro e w' ⟨rfl, ⟨nd, rfl⟩⟩; refine ⟨_, rfl, ?_⟩))
  go_ret
  exact ⟨by first | rfl | (simp; done) | (simp [*]; done) | exact isEmpty_bne _, by repeat (first | exact Drawn0.refl _ | apply Drawn0.step)⟩

end Go.Proofs.YtfagbgkbmikccaaDoor.PQuoteLines
