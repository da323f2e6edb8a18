-- LAID BY gprint.py: a scratch copy of the print, with functions that this session proved by hand among the printed ones
import Derived.Test.YtmoodnnfghbilaaDoorPCursorReadsx0
import Derived.Test.YtmoodnnfghbilaaDoorPCursorReadsx2
import Derived.Test.YtmoodnnfghbilaaDoorPCursorReadsx3
namespace Go.Proofs.YtmoodnnfghbilaaDoor.PCursorReads
open Go.RowKit Go.Proofs.YtmoodnnfghbilaaDoorW.PrintWords Go.Proofs.YtmoodnnfghbilaaDoorW.PrintLast Go.Proofs.YtmoodnnfghbilaaDoor.Conv Go.Proofs.YtmoodnnfghbilaaDoorW.PrintMore
attribute [local go_sem] max2_int min2_int max_two min_two max_three min_three max_four min_four gtr_less   -- for this text's walks alone
set_option linter.unusedVariables false
set_option linter.unusedSimpArgs false

-- GIVEN rounds=1 making=1 needs=strings.Repeat,logbook/name.Number,logbook/cursor.Hex
/-! ### cursor.number: by hand -/
def cursor_number.f (k : Nat) (a0 : ByteArray) : Option (Int × Bool) :=
  if a0.size > 16 then some (0, false) else (strings_Repeat.f (⟨#[48]⟩ : ByteArray) (16 - (a0.size : Int))).bind fun t => if t.size ≤ 16 then (name_Number.f (t ++ a0)).bind fun n =>
    (if n.2 = true then (cursor_Hex.f k n.1).bind fun s => some (n.1, (s.toList == a0.toList)) else some (n.1, false)) else none
theorem cursor_number.mono : ∀ a0 k, LeO (cursor_number.f k a0) (cursor_number.f (k + 1) a0) := by
  intro a0 k
  unfold cursor_number.f
  repeat' first
    | (with_reducible exact cursor_Hex.mono _ _)
    | (with_reducible exact LeO.refl _)
    | (with_reducible exact LeO.none _)
    | (with_reducible refine LeO.ite ?_ ?_)
    | (with_reducible refine LeO.bind ?_ (fun _ => ?_))
set_option maxHeartbeats 1600000 in
theorem cursor_number.calls (k : Nat) (a0 : ByteArray) (r1 : Int) (r2 : Bool) (w : World) (h : cursor_number.f k a0 = some (r1, r2)) :
    Calls Tryd.prog 21 #[.string a0] w fun e w' => e = .returned (.tuple #[.int .u64 r1, .bool r2]) ∧ Below w.heap.size w w' := by
  unfold cursor_number.f at h
  by_cases hz : a0.size > 16
  · rw [if_pos hz] at h
    simp only [Option.some.injEq, Prod.mk.injEq] at h
    obtain ⟨rfl, rfl⟩ := h
    have hz' : (16 : Int) < (a0.size : Int) := by omega
    clear hz
    go_enter Tryd.func21, Tryd.ntmps21
    go_wp2
    go_ret2
    exact ⟨rfl, Below.refl _ _⟩
  rw [if_neg hz] at h
  have hz' : (a0.size : Int) ≤ 16 := by omega
  obtain ⟨t, h1, h2⟩ := Option.bind_eq_some_iff.1 h
  clear h
  by_cases ht : t.size ≤ 16
  case neg => rw [if_neg ht] at h2; cases h2
  rw [if_pos ht] at h2
  obtain ⟨⟨n, b⟩, h3, h4⟩ := Option.bind_eq_some_iff.1 h2
  clear h2
  have H1 := Lib.hid h1
  have H3 := Lib.hid h3
  have hti : (t.size : Int) ≤ 16 := by omega
  clear h1 h3
  cases b
  · replace h4 : some (n, false) = some (r1, r2) := h4
    simp only [Option.some.injEq, Prod.mk.injEq] at h4
    obtain ⟨rfl, rfl⟩ := h4
    go_enter Tryd.func21, Tryd.ntmps21
    go_wp2_with (first
      | (go_at_call 31; (with_reducible refine (strings_Repeat.calls _ _ t _ H1.out).mono ?_); rintro e w2 ⟨rfl, hb2⟩; have HB2 := Lib.hid hb2; clear hb2)
      | (go_at_call 22; (with_reducible refine (name_Number.calls _ _ _ _ H3.out).mono ?_); rintro e w3 ⟨rfl, hb3⟩; have HB3 : Hid (Below w.heap.size w w3) := Lib.hid (HB2.out.trans (hb3.mono HB2.out.size)); clear hb3))
    go_ret2
    exact ⟨rfl, HB3.out⟩
  · rw [if_pos rfl] at h4
    obtain ⟨s, h5, h6⟩ := Option.bind_eq_some_iff.1 h4
    clear h4
    simp only [Option.some.injEq, Prod.mk.injEq] at h6
    obtain ⟨rfl, rfl⟩ := h6
    have H5 := Lib.hid h5
    clear h5
    go_enter Tryd.func21, Tryd.ntmps21
    go_wp2_with (first
      | (go_at_call 31; (with_reducible refine (strings_Repeat.calls _ _ t _ H1.out).mono ?_); rintro e w2 ⟨rfl, hb2⟩; have HB2 := Lib.hid hb2; clear hb2)
      | (go_at_call 22; (with_reducible refine (name_Number.calls _ _ _ _ H3.out).mono ?_); rintro e w3 ⟨rfl, hb3⟩; have HB3 : Hid (Below w.heap.size w w3) := Lib.hid (HB2.out.trans (hb3.mono HB2.out.size)); clear hb3)
      | (go_at_call 14; (with_reducible refine (cursor_Hex.calls k _ s _ H5.out).mono ?_); rintro e w4 ⟨rfl, hb4⟩; have HB4 : Hid (Below w.heap.size w w4) := Lib.hid (HB3.out.trans (hb4.mono HB3.out.size)); clear hb4))
    go_ret2
    exact ⟨rfl, HB4.out⟩

-- GIVEN rounds=1 making=1 needs=strings.Split,strings.Cut,logbook/name.Number,logbook/cursor.number
/-! ### cursor.Parse: by hand: an array filled place by place, by one function or another -/
abbrev curKeys : ByteArray := ⟨#[115, 105, 98, 109, 116, 120]⟩
def curRead (k q : Nat) (v : ByteArray) : Option (Int × Bool) := if q = 0 ∨ q = 2 then name_Number.f v else cursor_number.f k v
def curGo (k : Nat) : Nat → List ByteArray → Option (Option (List Int))
  | _, [] => some (some [])
  | q, p :: ps => (strings_Cut.f p (⟨#[61]⟩ : ByteArray)).bind fun c => if c.2.2 = true ∧ c.1.toList = (curKeys.extract q (q + 1)).toList then (curRead k q c.2.1).bind fun n => if n.2 = true then (curGo k (q + 1) ps).bind fun o => some (o.map (n.1 :: ·)) else some none else some none
def curEnd : Option (List Int) → Option (Int × Int × Int × Int × Int × Int × Int)
  | some [a, b, c, d, e, f] => some (a, b, c, d, e, f, 0)
  | some _ => none
  | none => some (0, 0, 0, 0, 0, 0, 28)
def cursor_Parse.f (k : Nat) (a0 : ByteArray) : Option (Int × Int × Int × Int × Int × Int × Int) :=
  (strings_Split.f k a0 (⟨#[59]⟩ : ByteArray)).bind fun ps => if ps.length = 6 then (curGo k 0 ps).bind curEnd else some (0, 0, 0, 0, 0, 0, 28)
theorem curRead_mono : ∀ q v k, LeO (curRead k q v) (curRead (k + 1) q v) := by
  intro q v k
  unfold curRead
  exact LeO.ite (LeO.refl _) (cursor_number.mono _ _)
theorem curGo_mono : ∀ ps q k, LeO (curGo k q ps) (curGo (k + 1) q ps)
  | [], q, k => LeO.refl _
  | p :: ps, q, k => by
    have ih := curGo_mono ps (q + 1) k
    unfold curGo
    repeat' first
      | (with_reducible exact ih)
      | (with_reducible exact curRead_mono _ _ _)
      | (with_reducible exact LeO.refl _)
      | (with_reducible refine LeO.ite ?_ ?_)
      | (with_reducible refine LeO.bind ?_ (fun _ => ?_))
theorem cursor_Parse.mono : ∀ a0 k, LeO (cursor_Parse.f k a0) (cursor_Parse.f (k + 1) a0) := by
  intro a0 k
  unfold cursor_Parse.f
  repeat' first
    | (with_reducible exact strings_Split.mono _ _ _)
    | (with_reducible exact curGo_mono _ _ _)
    | (with_reducible exact LeO.refl _)
    | (with_reducible refine LeO.ite ?_ ?_)
    | (with_reducible refine LeO.bind ?_ (fun _ => ?_))
def cur6 (acc : List Int) : Array Value := ((acc ++ List.replicate (6 - acc.length) 0).map (Value.int .u64)).toArray
theorem cur6_get (acc : List Int) (q : Nat) (hq : acc.length = q ∧ q < 6) : (cur6 acc)[q]? = some (.int .u64 0) := by
  unfold cur6
  rw [List.getElem?_toArray, List.getElem?_map, List.getElem?_append_right (by omega), List.getElem?_replicate, if_pos (by omega)]
  rfl
theorem cur6_put (acc : List Int) (q : Nat) (n : Int) (h : acc.length = q) (hq : q < 6) : cur6 (acc ++ [n]) = (cur6 acc).setIfInBounds q (.int .u64 n) := by
  subst h
  match acc, hq with
  | [], _ => rfl
  | [a], _ => rfl
  | [a, b], _ => rfl
  | [a, b, c], _ => rfl
  | [a, b, c, d], _ => rfl
  | [a, b, c, d, e], _ => rfl
  | a :: b :: c :: d :: e :: f :: r, hq => exact absurd hq (by simp only [List.length_cons]; omega)
theorem curRead_some (k : Nat) (p : ByteArray) (ps : List ByteArray) (q : Nat) (c1 c2 : ByteArray) (o : Option (List Int)) (hc : strings_Cut.f p (⟨#[61]⟩ : ByteArray) = some (c1, c2, true)) (hk : c1.toList = (curKeys.extract q (q + 1)).toList) (h : curGo k q (p :: ps) = some o) : ∃ n b, curRead k q c2 = some (n, b) := by
  rw [curGo, hc] at h
  have h' : (if true = true ∧ c1.toList = (curKeys.extract q (q + 1)).toList then (curRead k q c2).bind fun n => if n.2 = true then (curGo k (q + 1) ps).bind fun o => some (o.map (n.1 :: ·)) else some none else some none) = some o := h
  rw [if_pos ⟨rfl, hk⟩] at h'
  obtain ⟨x, hx, _⟩ := Option.bind_eq_some_iff.1 h'
  exact ⟨x.1, x.2, hx⟩
theorem curGo_next (k : Nat) (p : ByteArray) (ps : List ByteArray) (q : Nat) (acc : List Int) (c1 c2 : ByteArray) (n : Int) (hc : strings_Cut.f p (⟨#[61]⟩ : ByteArray) = some (c1, c2, true)) (hk : c1.toList = (curKeys.extract q (q + 1)).toList) (hr : curRead k q c2 = some (n, true)) :
    (curGo k q (p :: ps)).bind (fun o => some (o.map (acc ++ ·))) = (curGo k (q + 1) ps).bind (fun o => some (o.map ((acc ++ [n]) ++ ·))) := by
  rw [curGo, hc]
  show ((if true = true ∧ c1.toList = (curKeys.extract q (q + 1)).toList then (curRead k q c2).bind fun n => if n.2 = true then (curGo k (q + 1) ps).bind fun o => some (o.map (n.1 :: ·)) else some none else some none).bind _) = _
  rw [if_pos ⟨rfl, hk⟩, hr]
  show (((curGo k (q + 1) ps).bind fun o => some (o.map (n :: ·))).bind _) = _
  cases curGo k (q + 1) ps with
  | none => rfl
  | some o =>
    cases o with
    | none => rfl
    | some x => simp
theorem curGo_stop (k : Nat) (p : ByteArray) (ps : List ByteArray) (q : Nat) (c1 c2 : ByteArray) (c3 : Bool) (hc : strings_Cut.f p (⟨#[61]⟩ : ByteArray) = some (c1, c2, c3)) (hk : ¬ (c3 = true ∧ c1.toList = (curKeys.extract q (q + 1)).toList)) : curGo k q (p :: ps) = some none := by
  rw [curGo, hc]
  exact if_neg hk
theorem curGo_bad (k : Nat) (p : ByteArray) (ps : List ByteArray) (q : Nat) (c1 c2 : ByteArray) (n : Int) (hc : strings_Cut.f p (⟨#[61]⟩ : ByteArray) = some (c1, c2, true)) (hk : c1.toList = (curKeys.extract q (q + 1)).toList) (hr : curRead k q c2 = some (n, false)) : curGo k q (p :: ps) = some none := by
  rw [curGo, hc]
  show (if true = true ∧ c1.toList = (curKeys.extract q (q + 1)).toList then (curRead k q c2).bind fun n => if n.2 = true then (curGo k (q + 1) ps).bind fun o => some (o.map (n.1 :: ·)) else some none else some none) = _
  rw [if_pos ⟨rfl, hk⟩, hr]
  rfl
set_option maxHeartbeats 12800000 in
set_option maxRecDepth 100000 in
theorem cursor_Parse.calls (k : Nat) (a0 : ByteArray) (r1 r2 r3 r4 r5 r6 r7 : Int) (w : World) (h : cursor_Parse.f k a0 = some (r1, r2, r3, r4, r5, r6, r7)) :
    Calls Tryd.prog 12 #[.string a0] w fun e w' => e = .returned (.tuple #[.agg #[.int .u64 r1, .int .u64 r2, .int .u64 r3, .int .u64 r4, .int .u64 r5, .int .u64 r6], .int .i64 r7]) ∧ Below w.heap.size w w' := by
  unfold cursor_Parse.f at h
  obtain ⟨ps, hps, h2⟩ := Option.bind_eq_some_iff.1 h
  clear h
  have hu := Tryd.underlying25
  have hu2 := Tryd.underlying23
  have HBX : Hid (Below w.heap.size w (w.alloc (.cells #[.int .u64 0, .int .u64 0, .int .u64 0, .int .u64 0, .int .u64 0, .int .u64 0] 25))) := Lib.hid ((Below.refl _ _).alloc (Nat.le_refl _) _)
  have HR0 : Hid ((w.alloc (.cells #[.int .u64 0, .int .u64 0, .int .u64 0, .int .u64 0, .int .u64 0, .int .u64 0] 25)).heap[w.heap.size]? = some (.cells #[.int .u64 0, .int .u64 0, .int .u64 0, .int .u64 0, .int .u64 0, .int .u64 0] 25 (0, 0))) := Lib.hid (heap_alloc_new _ _)
  have HPS := Lib.hid hps
  clear hps
  by_cases hl : ps.length = 6
  case neg =>
    rw [if_neg hl] at h2
    have hz : Hid (r1 = 0 ∧ r2 = 0 ∧ r3 = 0 ∧ r4 = 0 ∧ r5 = 0 ∧ r6 = 0 ∧ r7 = 28) := Lib.hid (by
      simp only [Option.some.injEq, Prod.mk.injEq] at h2
      obtain ⟨rfl, rfl, rfl, rfl, rfl, rfl, rfl⟩ := h2
      exact ⟨rfl, rfl, rfl, rfl, rfl, rfl, rfl⟩)
    have hl' : ((ps.length : Int) != 6) = true := bne_iff_ne.2 (by omega)
    clear h2 hl
    go_enter Tryd.func12, Tryd.ntmps12
    go_wp2_with (first
      | (go_at_call 19; (with_reducible refine (strings_Split.calls k a0 _ ps _ HPS.out).mono ?_); rintro e w2 ⟨v0, rfl, hR, hB⟩; obtain ⟨A0, c0, rfl⟩ := Kd.R_slice hR; have HBLT := Lib.hid (blk_below HR0.out hB); have HBT := Lib.hid (below_then HBX.out (by simp) hB); clear hR hB)
      | (refine store_ev rfl 25 _ _ rfl rfl w.heap.size #[.int .u64 0, .int .u64 0, .int .u64 0, .int .u64 0, .int .u64 0, .int .u64 0] rfl rfl 25 _ HBLT.out (by kernel_rfl) (by kernel_rfl) (by kernel_rfl) ?_; intro w9 hb9 hp9; have HB9 := Lib.hid hb9; have HP9 := Lib.hid hp9; clear hb9 hp9))
    refine bodyPost_ret (results_ct rfl _ _ w.heap.size 25 #[.int .u64 0, .int .u64 0, .int .u64 0, .int .u64 0, .int .u64 0, .int .u64 0] (0, 0) _ rfl HB9.out hu rfl (by kernel_rfl)) rfl ?_
    obtain ⟨rfl, rfl, rfl, rfl, rfl, rfl, rfl⟩ := hz.out
    exact ⟨rfl, HP9.out.below HBT.out (Nat.le_refl _)⟩
  rw [if_pos hl] at h2
  have HH := Lib.hid h2
  have HL := Lib.hid hl
  have hl' : ((ps.length : Int) != 6) = false := bne_eq_false_iff_eq.2 (by omega)
  have hle : ps.length ≤ 6 := by omega
  have hge : 6 ≤ ps.length := by omega
  clear h2 hl
  go_enter Tryd.func12, Tryd.ntmps12
  go_wp2_with (first
      | (go_at_call 19; (with_reducible refine (strings_Split.calls k a0 _ ps _ HPS.out).mono ?_); rintro e w2 ⟨v0, rfl, hR, hB⟩; obtain ⟨g, c0, rfl, hg1, hg2, _⟩ := Kd.R_form hR (by omega); have HR := Lib.hid hR; have HBL := Lib.hid (blk_below HR0.out hB); have HB2 := Lib.hid (below_then HBX.out (by simp) hB); have HO := Lib.hid (heap_alloc_new w2 (.cells #[.int .u64 0, .int .u64 0, .int .u64 0, .int .u64 0, .int .u64 0, .int .u64 0] 23)); clear hR hB))
  have HBA : Hid (Below w2.heap.size w2 (w2.alloc (.cells #[.int .u64 0, .int .u64 0, .int .u64 0, .int .u64 0, .int .u64 0, .int .u64 0] 23))) := Lib.hid ((Below.refl _ _).alloc (Nat.le_refl _) _)
  obtain ⟨G, hG⟩ : ∃ G, G = w2.heap.size := ⟨_, rfl⟩
  have HG : Hid (w2.heap.size ≤ G) := Lib.hid (by omega)
  rw [← hG] at HO ⊢
  clear hG HBX HR0 HPS hg1
  go_loopw [21] (fun i wr => ∃ (q : Nat) (acc : List Int), q ≤ 6 ∧ acc.length = q ∧ i = .int .i64 q ∧ Hid (curGo k 0 ps = (curGo k q (ps.drop q)).bind (fun o => some (o.map (acc ++ ·)))) ∧ Hid (wr.heap[G]? = some (.cells (cur6 acc) 23 (0, 0))) ∧ Hid (Below w2.heap.size w2 wr)) (fun i _ => 6 - (intOf i).toNat)
  case atStart =>
    refine ⟨0, [], by omega, rfl, rfl, Lib.hid ?_, HO, HBA⟩
    rw [List.drop_zero]
    cases curGo k 0 ps with
    | none => rfl
    | some o => cases o <;> rfl
  case round =>
    obtain ⟨q, acc, hq, hac, rfl, hcg, hO, hBr⟩ := hrel
    by_cases hlt : q < 6
    · have hlq : q < ps.length := by omega
      have hcell : wr.cell? ⟨g, q, none⟩ = some (.string (ps.getD q ByteArray.empty)) := by
        rw [Below.cell hBr.out (p := ⟨g, q, none⟩) hg2]
        exact R_str HR.out q hlq
      have hdr : ps.drop q = ps.getD q ByteArray.empty :: ps.drop (q + 1) := by
        rw [List.drop_eq_getElem_cons hlq, List.getD_eq_getElem?_getD, List.getElem?_eq_getElem hlq]
        rfl
      have hcg2 := hcg.out
      rw [hdr] at hcg2
      generalize ps.getD q ByteArray.empty = p at hcell hcg2
      have h := HH.out
      rw [hcg2] at h
      obtain ⟨c1, c2, c3, hcut⟩ : ∃ c1 c2 c3, strings_Cut.f p (⟨#[61]⟩ : ByteArray) = some (c1, c2, c3) := by
        cases hc : strings_Cut.f p (⟨#[61]⟩ : ByteArray) with
        | none => rw [curGo, hc] at h; cases h
        | some c => exact ⟨c.1, c.2.1, c.2.2, rfl⟩
      have HCUT := Lib.hid hcut
      have HCG := Lib.hid hcg2
      have HS := Lib.hid h
      have q0 : (0 : Int) ≤ (q : Int) := by omega
      have q1 : (q : Int) < 6 := by omega
      have q2 : (q : Int) + 1 ≤ 6 := by omega
      have q3 : (q : Int) < (ps.length : Int) := by omega
      have hsl : ∀ W : World, (Instr.slice 9 (.string curKeys) (some (.int .i64 (q : Int))) (some (.int .i64 ((q : Int) + 1))) none).run Tryd.prog W = .ok (.string (curKeys.extract q (q + 1))) W := fun W => by
        have z := run_slice_string (P := Tryd.prog) W 9 curKeys .i64 .i64 (q : Int) ((q : Int) + 1) Tryd.underlying9 q0 (by omega) (by show (q : Int) + 1 ≤ ((6 : Nat) : Int); omega)
        rw [show ((q : Int)).toNat = q by omega, show ((q : Int) + 1).toNat = q + 1 by omega] at z
        exact z
      clear hcut hcg2 h hdr hcg
      by_cases hk : c3 = true ∧ c1.toList = (curKeys.extract q (q + 1)).toList
      case neg =>
        have hz : Hid (r1 = 0 ∧ r2 = 0 ∧ r3 = 0 ∧ r4 = 0 ∧ r5 = 0 ∧ r6 = 0 ∧ r7 = 28) := Lib.hid (by
          have h := HS.out
          rw [curGo_stop k p _ q c1 c2 c3 HCUT.out hk] at h
          simp only [Option.bind_some, Option.map_none, curEnd, Option.some.injEq, Prod.mk.injEq] at h
          obtain ⟨rfl, rfl, rfl, rfl, rfl, rfl, rfl⟩ := h
          exact ⟨rfl, rfl, rfl, rfl, rfl, rfl, rfl⟩)
        have hk' : c3 = false ∨ (c3 = true ∧ (c1.toList == (curKeys.extract q (q + 1)).toList) = false) := by
          cases c3
          · exact .inl rfl
          · exact .inr ⟨rfl, beq_false_of_ne (fun e => hk ⟨rfl, e⟩)⟩
        clear hk HS HCG
        rcases hk' with rfl | ⟨rfl, hkb⟩
        all_goals
          go_wp2_with (first
            | (go_at_call 20; (with_reducible refine (strings_Cut.calls _ _ c1 c2 _ _ HCUT.out).mono ?_); rintro e w4 ⟨rfl, nd, rfl⟩; have HBR := Lib.hid (pw_below_drewN hBr.out nd); have HOR : Hid ((wr.drewN nd).heap[G]? = some (.cells (cur6 acc) 23 (0, 0))) := Lib.hid hO.out; have HBT : Hid (Below w.heap.size w (wr.drewN nd)) := Lib.hid (HB2.out.trans (HBR.out.mono HB2.out.size)); have HBLT := Lib.hid (blk_below HBL.out HBR.out))
            | (refine store_ev rfl 25 _ _ rfl rfl w.heap.size #[.int .u64 0, .int .u64 0, .int .u64 0, .int .u64 0, .int .u64 0, .int .u64 0] rfl rfl 25 _ HBLT.out (by kernel_rfl) (by kernel_rfl) (by kernel_rfl) ?_; intro w9 hb9 hp9; have HB9 := Lib.hid hb9; have HP9 := Lib.hid hp9; clear hb9 hp9))
          refine bodyPost_ret (results_ct rfl _ _ w.heap.size 25 #[.int .u64 0, .int .u64 0, .int .u64 0, .int .u64 0, .int .u64 0, .int .u64 0] (0, 0) _ rfl HB9.out hu rfl (by kernel_rfl)) rfl ?_
          obtain ⟨rfl, rfl, rfl, rfl, rfl, rfl, rfl⟩ := hz.out
          exact ⟨rfl, HP9.out.below HBT.out (Nat.le_refl _)⟩
      obtain ⟨rfl, hk⟩ := hk
      have hkb : (c1.toList == (curKeys.extract q (q + 1)).toList) = true := by simp [hk]
      obtain ⟨n, b, hrd⟩ : ∃ n b, curRead k q c2 = some (n, b) := by
        obtain ⟨o1, ho1, _⟩ := Option.bind_eq_some_iff.1 HS.out
        obtain ⟨o2, ho2, _⟩ := Option.bind_eq_some_iff.1 ho1
        exact curRead_some k p _ q c1 c2 o2 HCUT.out hk ho2
      have HN : Hid (b = true → Hid (curGo k 0 ps = (curGo k (q + 1) (ps.drop (q + 1))).bind (fun o => some (o.map ((acc ++ [n]) ++ ·))))) := Lib.hid (fun hb => Lib.hid (by
        subst hb
        rw [HCG.out]
        exact curGo_next k p _ q acc c1 c2 n HCUT.out hk hrd))
      have HZ : Hid (b = false → (r1 = 0 ∧ r2 = 0 ∧ r3 = 0 ∧ r4 = 0 ∧ r5 = 0 ∧ r6 = 0 ∧ r7 = 28)) := Lib.hid (fun hb => by
        subst hb
        have h := HS.out
        rw [curGo_bad k p _ q c1 c2 n HCUT.out hk hrd] at h
        simp only [Option.bind_some, Option.map_none, curEnd, Option.some.injEq, Prod.mk.injEq] at h
        obtain ⟨rfl, rfl, rfl, rfl, rfl, rfl, rfl⟩ := h
        exact ⟨rfl, rfl, rfl, rfl, rfl, rfl, rfl⟩)
      clear hk HS HCG
      by_cases e0 : q = 0
      · have HRD : Hid (name_Number.f c2 = some (n, b)) := Lib.hid (by rw [← hrd]; unfold curRead; rw [if_pos (.inl e0)])
        have e1 : ((q : Int) == 0) = true := by rw [beq_iff_eq]; omega
        clear hrd e0
        cases b
        · have hz := HZ.out (by first | rfl | trivial)
          have hz := Lib.hid hz
          go_wp2_with (first
            | (go_at_call 20; (with_reducible refine (strings_Cut.calls _ _ c1 c2 _ _ HCUT.out).mono ?_); rintro e w4 ⟨rfl, nd, rfl⟩; have HBR := Lib.hid (pw_below_drewN hBr.out nd); have HOR : Hid ((wr.drewN nd).heap[G]? = some (.cells (cur6 acc) 23 (0, 0))) := Lib.hid hO.out; have HBT : Hid (Below w.heap.size w (wr.drewN nd)) := Lib.hid (HB2.out.trans (HBR.out.mono HB2.out.size)); have HBLT := Lib.hid (blk_below HBL.out HBR.out))
            | (go_at_call 22; (with_reducible refine (name_Number.calls c2 n false _ HRD.out).mono ?_); rintro e w5 ⟨rfl, hb5⟩; have HBR5 : Hid (Below w2.heap.size w2 w5) := Lib.hid (HBR.out.trans (hb5.mono HBR.out.size)); have HOR5 := Lib.hid (blk_below HOR.out hb5); clear HBT HBLT; have HBT : Hid (Below w.heap.size w w5) := Lib.hid (HB2.out.trans (HBR5.out.mono HB2.out.size)); have HBLT := Lib.hid (blk_below HBL.out HBR5.out); have k5 := blk_cell HOR5.out q; have f5 := blk_frozen HOR5.out q; rw [cur6_get acc q ⟨hac, by omega⟩] at k5; clear hb5)
            | (refine store_ev rfl 25 _ _ rfl rfl w.heap.size #[.int .u64 0, .int .u64 0, .int .u64 0, .int .u64 0, .int .u64 0, .int .u64 0] rfl rfl 25 _ HBLT.out (by kernel_rfl) (by kernel_rfl) (by kernel_rfl) ?_; intro w9 hb9 hp9; have HB9 := Lib.hid hb9; have HP9 := Lib.hid hp9; clear hb9 hp9))
          refine bodyPost_ret (results_ct rfl _ _ w.heap.size 25 #[.int .u64 0, .int .u64 0, .int .u64 0, .int .u64 0, .int .u64 0, .int .u64 0] (0, 0) _ rfl HB9.out hu rfl (by kernel_rfl)) rfl ?_
          obtain ⟨rfl, rfl, rfl, rfl, rfl, rfl, rfl⟩ := hz.out
          exact ⟨rfl, HP9.out.below HBT.out (Nat.le_refl _)⟩
        · go_wp2_with (first
            | (go_at_call 20; (with_reducible refine (strings_Cut.calls _ _ c1 c2 _ _ HCUT.out).mono ?_); rintro e w4 ⟨rfl, nd, rfl⟩; have HBR := Lib.hid (pw_below_drewN hBr.out nd); have HOR : Hid ((wr.drewN nd).heap[G]? = some (.cells (cur6 acc) 23 (0, 0))) := Lib.hid hO.out; have HBT : Hid (Below w.heap.size w (wr.drewN nd)) := Lib.hid (HB2.out.trans (HBR.out.mono HB2.out.size)); have HBLT := Lib.hid (blk_below HBL.out HBR.out))
            | (go_at_call 22; (with_reducible refine (name_Number.calls c2 n true _ HRD.out).mono ?_); rintro e w5 ⟨rfl, hb5⟩; have HBR5 : Hid (Below w2.heap.size w2 w5) := Lib.hid (HBR.out.trans (hb5.mono HBR.out.size)); have HOR5 := Lib.hid (blk_below HOR.out hb5); clear HBT HBLT; have HBT : Hid (Below w.heap.size w w5) := Lib.hid (HB2.out.trans (HBR5.out.mono HB2.out.size)); have HBLT := Lib.hid (blk_below HBL.out HBR5.out); have k5 := blk_cell HOR5.out q; have f5 := blk_frozen HOR5.out q; rw [cur6_get acc q ⟨hac, by omega⟩] at k5; clear hb5))
          go_roundw
          case rel => exact ⟨q + 1, acc ++ [n], by omega, by rw [List.length_append, hac]; rfl, by go_num, HN.out (by first | rfl | trivial), Lib.hid (by rw [cur6_put acc q n hac (by omega)]; exact blk_put HOR5.out q _ rfl), Lib.hid (HBR5.out.setCell (by first | exact HG.out | omega) _)⟩
          case measure => simp [intOf]; omega
      by_cases e2 : q = 2
      · have HRD : Hid (name_Number.f c2 = some (n, b)) := Lib.hid (by rw [← hrd]; unfold curRead; rw [if_pos (.inr e2)])
        have e1 : ((q : Int) == 0) = false := beq_false_of_ne (by omega)
        have e3 : ((q : Int) == 2) = true := by rw [beq_iff_eq]; omega
        clear hrd e0 e2
        cases b
        · have hz := HZ.out (by first | rfl | trivial)
          have hz := Lib.hid hz
          go_wp2_with (first
            | (go_at_call 20; (with_reducible refine (strings_Cut.calls _ _ c1 c2 _ _ HCUT.out).mono ?_); rintro e w4 ⟨rfl, nd, rfl⟩; have HBR := Lib.hid (pw_below_drewN hBr.out nd); have HOR : Hid ((wr.drewN nd).heap[G]? = some (.cells (cur6 acc) 23 (0, 0))) := Lib.hid hO.out; have HBT : Hid (Below w.heap.size w (wr.drewN nd)) := Lib.hid (HB2.out.trans (HBR.out.mono HB2.out.size)); have HBLT := Lib.hid (blk_below HBL.out HBR.out))
            | (go_at_call 22; (with_reducible refine (name_Number.calls c2 n false _ HRD.out).mono ?_); rintro e w5 ⟨rfl, hb5⟩; have HBR5 : Hid (Below w2.heap.size w2 w5) := Lib.hid (HBR.out.trans (hb5.mono HBR.out.size)); have HOR5 := Lib.hid (blk_below HOR.out hb5); clear HBT HBLT; have HBT : Hid (Below w.heap.size w w5) := Lib.hid (HB2.out.trans (HBR5.out.mono HB2.out.size)); have HBLT := Lib.hid (blk_below HBL.out HBR5.out); have k5 := blk_cell HOR5.out q; have f5 := blk_frozen HOR5.out q; rw [cur6_get acc q ⟨hac, by omega⟩] at k5; clear hb5)
            | (refine store_ev rfl 25 _ _ rfl rfl w.heap.size #[.int .u64 0, .int .u64 0, .int .u64 0, .int .u64 0, .int .u64 0, .int .u64 0] rfl rfl 25 _ HBLT.out (by kernel_rfl) (by kernel_rfl) (by kernel_rfl) ?_; intro w9 hb9 hp9; have HB9 := Lib.hid hb9; have HP9 := Lib.hid hp9; clear hb9 hp9))
          refine bodyPost_ret (results_ct rfl _ _ w.heap.size 25 #[.int .u64 0, .int .u64 0, .int .u64 0, .int .u64 0, .int .u64 0, .int .u64 0] (0, 0) _ rfl HB9.out hu rfl (by kernel_rfl)) rfl ?_
          obtain ⟨rfl, rfl, rfl, rfl, rfl, rfl, rfl⟩ := hz.out
          exact ⟨rfl, HP9.out.below HBT.out (Nat.le_refl _)⟩
        · go_wp2_with (first
            | (go_at_call 20; (with_reducible refine (strings_Cut.calls _ _ c1 c2 _ _ HCUT.out).mono ?_); rintro e w4 ⟨rfl, nd, rfl⟩; have HBR := Lib.hid (pw_below_drewN hBr.out nd); have HOR : Hid ((wr.drewN nd).heap[G]? = some (.cells (cur6 acc) 23 (0, 0))) := Lib.hid hO.out; have HBT : Hid (Below w.heap.size w (wr.drewN nd)) := Lib.hid (HB2.out.trans (HBR.out.mono HB2.out.size)); have HBLT := Lib.hid (blk_below HBL.out HBR.out))
            | (go_at_call 22; (with_reducible refine (name_Number.calls c2 n true _ HRD.out).mono ?_); rintro e w5 ⟨rfl, hb5⟩; have HBR5 : Hid (Below w2.heap.size w2 w5) := Lib.hid (HBR.out.trans (hb5.mono HBR.out.size)); have HOR5 := Lib.hid (blk_below HOR.out hb5); clear HBT HBLT; have HBT : Hid (Below w.heap.size w w5) := Lib.hid (HB2.out.trans (HBR5.out.mono HB2.out.size)); have HBLT := Lib.hid (blk_below HBL.out HBR5.out); have k5 := blk_cell HOR5.out q; have f5 := blk_frozen HOR5.out q; rw [cur6_get acc q ⟨hac, by omega⟩] at k5; clear hb5))
          go_roundw
          case rel => exact ⟨q + 1, acc ++ [n], by omega, by rw [List.length_append, hac]; rfl, by go_num, HN.out (by first | rfl | trivial), Lib.hid (by rw [cur6_put acc q n hac (by omega)]; exact blk_put HOR5.out q _ rfl), Lib.hid (HBR5.out.setCell (by first | exact HG.out | omega) _)⟩
          case measure => simp [intOf]; omega
      · have HRD : Hid (cursor_number.f k c2 = some (n, b)) := Lib.hid (by rw [← hrd]; unfold curRead; rw [if_neg (by omega)])
        have e1 : ((q : Int) == 0) = false := beq_false_of_ne (by omega)
        have e3 : ((q : Int) == 2) = false := beq_false_of_ne (by omega)
        clear hrd e0 e2
        cases b
        · have hz := HZ.out (by first | rfl | trivial)
          have hz := Lib.hid hz
          go_wp2_with (first
            | (go_at_call 20; (with_reducible refine (strings_Cut.calls _ _ c1 c2 _ _ HCUT.out).mono ?_); rintro e w4 ⟨rfl, nd, rfl⟩; have HBR := Lib.hid (pw_below_drewN hBr.out nd); have HOR : Hid ((wr.drewN nd).heap[G]? = some (.cells (cur6 acc) 23 (0, 0))) := Lib.hid hO.out; have HBT : Hid (Below w.heap.size w (wr.drewN nd)) := Lib.hid (HB2.out.trans (HBR.out.mono HB2.out.size)); have HBLT := Lib.hid (blk_below HBL.out HBR.out))
            | (go_at_call 21; (with_reducible refine (cursor_number.calls k c2 n false _ HRD.out).mono ?_); rintro e w5 ⟨rfl, hb5⟩; have HBR5 : Hid (Below w2.heap.size w2 w5) := Lib.hid (HBR.out.trans (hb5.mono HBR.out.size)); have HOR5 := Lib.hid (blk_below HOR.out hb5); clear HBT HBLT; have HBT : Hid (Below w.heap.size w w5) := Lib.hid (HB2.out.trans (HBR5.out.mono HB2.out.size)); have HBLT := Lib.hid (blk_below HBL.out HBR5.out); have k5 := blk_cell HOR5.out q; have f5 := blk_frozen HOR5.out q; rw [cur6_get acc q ⟨hac, by omega⟩] at k5; clear hb5)
            | (refine store_ev rfl 25 _ _ rfl rfl w.heap.size #[.int .u64 0, .int .u64 0, .int .u64 0, .int .u64 0, .int .u64 0, .int .u64 0] rfl rfl 25 _ HBLT.out (by kernel_rfl) (by kernel_rfl) (by kernel_rfl) ?_; intro w9 hb9 hp9; have HB9 := Lib.hid hb9; have HP9 := Lib.hid hp9; clear hb9 hp9))
          refine bodyPost_ret (results_ct rfl _ _ w.heap.size 25 #[.int .u64 0, .int .u64 0, .int .u64 0, .int .u64 0, .int .u64 0, .int .u64 0] (0, 0) _ rfl HB9.out hu rfl (by kernel_rfl)) rfl ?_
          obtain ⟨rfl, rfl, rfl, rfl, rfl, rfl, rfl⟩ := hz.out
          exact ⟨rfl, HP9.out.below HBT.out (Nat.le_refl _)⟩
        · go_wp2_with (first
            | (go_at_call 20; (with_reducible refine (strings_Cut.calls _ _ c1 c2 _ _ HCUT.out).mono ?_); rintro e w4 ⟨rfl, nd, rfl⟩; have HBR := Lib.hid (pw_below_drewN hBr.out nd); have HOR : Hid ((wr.drewN nd).heap[G]? = some (.cells (cur6 acc) 23 (0, 0))) := Lib.hid hO.out; have HBT : Hid (Below w.heap.size w (wr.drewN nd)) := Lib.hid (HB2.out.trans (HBR.out.mono HB2.out.size)); have HBLT := Lib.hid (blk_below HBL.out HBR.out))
            | (go_at_call 21; (with_reducible refine (cursor_number.calls k c2 n true _ HRD.out).mono ?_); rintro e w5 ⟨rfl, hb5⟩; have HBR5 : Hid (Below w2.heap.size w2 w5) := Lib.hid (HBR.out.trans (hb5.mono HBR.out.size)); have HOR5 := Lib.hid (blk_below HOR.out hb5); clear HBT HBLT; have HBT : Hid (Below w.heap.size w w5) := Lib.hid (HB2.out.trans (HBR5.out.mono HB2.out.size)); have HBLT := Lib.hid (blk_below HBL.out HBR5.out); have k5 := blk_cell HOR5.out q; have f5 := blk_frozen HOR5.out q; rw [cur6_get acc q ⟨hac, by omega⟩] at k5; clear hb5))
          go_roundw
          case rel => exact ⟨q + 1, acc ++ [n], by omega, by rw [List.length_append, hac]; rfl, by go_num, HN.out (by first | rfl | trivial), Lib.hid (by rw [cur6_put acc q n hac (by omega)]; exact blk_put HOR5.out q _ rfl), Lib.hid (HBR5.out.setCell (by first | exact HG.out | omega) _)⟩
          case measure => simp [intOf]; omega
    · obtain rfl : q = 6 := by omega
      have h := HH.out
      rw [hcg.out, List.drop_of_length_le hle] at h
      match acc, hac with
      | [x1, x2, x3, x4, x5, x6], _ =>
        have hz : Hid (r1 = x1 ∧ r2 = x2 ∧ r3 = x3 ∧ r4 = x4 ∧ r5 = x5 ∧ r6 = x6 ∧ r7 = 0) := Lib.hid (by
          simp only [curGo, Option.bind_some, Option.map_some, List.append_nil, curEnd, Option.some.injEq, Prod.mk.injEq] at h
          obtain ⟨rfl, rfl, rfl, rfl, rfl, rfl, rfl⟩ := h
          exact ⟨rfl, rfl, rfl, rfl, rfl, rfl, rfl⟩)
        have hO6 : Hid (wr.heap[G]? = some (.cells #[.int .u64 x1, .int .u64 x2, .int .u64 x3, .int .u64 x4, .int .u64 x5, .int .u64 x6] 23 (0, 0))) := hO
        have k0 := blk_cell hO6.out 0
        have k1 := blk_cell hO6.out 1
        have k2 := blk_cell hO6.out 2
        have k3 := blk_cell hO6.out 3
        have k4 := blk_cell hO6.out 4
        have k5 := blk_cell hO6.out 5
        simp at k0 k1 k2 k3 k4 k5
        have HBLT := Lib.hid (blk_below HBL.out hBr.out)
        have HBT : Hid (Below w.heap.size w wr) := Lib.hid (HB2.out.trans (hBr.out.mono HB2.out.size))
        clear h hcg hO
        go_wp2_with (first
          | (refine store_ev rfl 25 _ _ rfl rfl w.heap.size #[.int .u64 x1, .int .u64 x2, .int .u64 x3, .int .u64 x4, .int .u64 x5, .int .u64 x6] rfl rfl 25 _ HBLT.out (by kernel_rfl) (by kernel_rfl) (by kernel_rfl) ?_; intro w9 hb9 hp9; have HB9 := Lib.hid hb9; have HP9 := Lib.hid hp9; clear hb9 hp9))
        refine bodyPost_ret (results_ct rfl _ _ w.heap.size 25 #[.int .u64 x1, .int .u64 x2, .int .u64 x3, .int .u64 x4, .int .u64 x5, .int .u64 x6] (0, 0) _ rfl HB9.out hu rfl (by kernel_rfl)) rfl ?_
        obtain ⟨rfl, rfl, rfl, rfl, rfl, rfl, rfl⟩ := hz.out
        exact ⟨rfl, HP9.out.below HBT.out (Nat.le_refl _)⟩

/-! ### logbookref22_Hex: function 23 -/
def logbookref22_Hex.l0 : Nat → Int → ByteArray → Int → Option (ByteArray)
  | 0, _, _, _ => none
  | k + 1, x0, x3, x4 => if x4 < 16 then (if ((Int.tmod x0 16) % 256) > 9 then ((some (([(97 + ((((Int.tmod x0 16) % 256) - 10) % 256)) % 256] : List Int) : List Int)).bind fun y145 => (if (strOfNums y145).size + x3.size ≤ 9223372036854775807 then (logbookref22_Hex.l0 k (IntKind.u64.wrap (Int.tdiv x0 16)) ((strOfNums y145) ++ x3) (wrap64 (x4 + 1))) else (none))) else ((some (([(48 + ((Int.tmod x0 16) % 256)) % 256] : List Int) : List Int)).bind fun y148 => (if (strOfNums y148).size + x3.size ≤ 9223372036854775807 then (logbookref22_Hex.l0 k (IntKind.u64.wrap (Int.tdiv x0 16)) ((strOfNums y148) ++ x3) (wrap64 (x4 + 1))) else (none)))) else (some x3)
def logbookref22_Hex.f (k : Nat) (a0 : Int) : Option (ByteArray) := logbookref22_Hex.l0 k a0 (⟨#[]⟩ : ByteArray) 0
theorem logbookref22_Hex.mono_l : ∀ k, (∀ y0 y1 y2, LeO (logbookref22_Hex.l0 k y0 y1 y2) (logbookref22_Hex.l0 (k + 1) y0 y1 y2))
  | 0 => fun _ _ _ r h => by simp [logbookref22_Hex.l0] at h
  | k + 1 => by
    have ih0 := logbookref22_Hex.mono_l k
    · intro y0 y1 y2
      unfold logbookref22_Hex.l0
      repeat' first
      | (with_reducible exact ih0 _ _ _)
      | (with_reducible exact LeO.refl _)
      | (with_reducible exact LeO.none _)
      | (with_reducible refine LeO.ite ?_ ?_)
      | (with_reducible refine LeO.bind ?_ (fun _ => ?_))
      | exact ih0 _ _ _
      | exact LeO.none _
      | refine LeO.ite ?_ ?_
      | refine LeO.bind ?_ (fun _ => ?_)
theorem logbookref22_Hex.mono : ∀ a0 k, LeO (logbookref22_Hex.f k a0) (logbookref22_Hex.f (k + 1) a0) := by
  intro a0 k
  have ih0 := logbookref22_Hex.mono_l k
  unfold logbookref22_Hex.f
  repeat' first
      | (with_reducible exact ih0 _ _ _)
      | (with_reducible exact LeO.refl _)
      | (with_reducible exact LeO.none _)
      | (with_reducible refine LeO.ite ?_ ?_)
      | (with_reducible refine LeO.bind ?_ (fun _ => ?_))
      | exact ih0 _ _ _
      | exact LeO.none _
      | refine LeO.ite ?_ ?_
      | refine LeO.bind ?_ (fun _ => ?_)
set_option maxHeartbeats 8000000 in
set_option maxRecDepth 100000 in
theorem logbookref22_Hex.calls (k : Nat) (a0 : Int) (r : ByteArray) (w : World) (h : logbookref22_Hex.f k a0 = some r) :
    Calls Tryd.prog 23 #[.int .u64 a0] w fun e w' => e = .returned (.string r) ∧ Below w.heap.size w w' := by
  have HB := Aside0.mk (Below.refl w.heap.size w)
  have H : (logbookref22_Hex.l0 k a0 (⟨#[]⟩ : ByteArray) 0) = some r := h
  clear h
  have H' := Aside0.mk H
  clear H
  go_enter Tryd.func23, Tryd.ntmps23
  go_wp2
  go_loopg [0, 3, 4] k (fun kq v0 v3 v4 w' => ∃ (x0_1 : Int) (x3_1 : ByteArray) (x4_1 : Int), v0 = .int .u64 x0_1 ∧ v3 = .string x3_1 ∧ v4 = .int .i64 x4_1 ∧ Aside0 (logbookref22_Hex.l0 kq x0_1 x3_1 x4_1 = some r) ∧ Aside0 (kq ≤ k) ∧ Aside0 (Below w.heap.size w w'))
  case atStart => exact ⟨(a0), ((⟨#[]⟩ : ByteArray)), (0), (by first | rfl | (simp; done) | (simp [*]; done) | exact isEmpty_bne _), (by first | rfl | (simp; done) | (simp [*]; done) | exact isEmpty_bne _), (by first | rfl | (simp; done) | (simp [*]; done) | exact isEmpty_bne _), H', ⟨Nat.le_refl _⟩, ⟨by repeat (first | (with_reducible first | exact HB.out | apply below_alloc | apply pw_below_drewN | apply below_drew1) | exact HB.out)⟩⟩
  case round =>
    clear H'
    obtain ⟨x0_1, x3_1, x4_1, rfl, rfl, rfl, HA, HK1, HB⟩ := hrel
    cases gk with
    | zero => exact absurd HA.out (by simp [logbookref22_Hex.l0])
    | succ k1 =>
      have H := HA.out
      clear HA
      simp only [logbookref22_Hex.l0] at H
      by_cases c2 : x4_1 < 16
      · rw [if_pos c2] at H
        have c2b0 : decide (x4_1 < 16) = true := decide_eq_true c2
        clear c2
        by_cases c3 : ((Int.tmod x0_1 16) % 256) > 9
        · rw [if_pos c3] at H
          have c3b0 : decide (9 < ((Int.tmod x0_1 16) % 256)) = true := decide_eq_true c3
          clear c3
          obtain ⟨y145, hy145⟩ : ∃ y_ : List Int, y_ = (([(97 + ((((Int.tmod x0_1 16) % 256) - 10) % 256)) % 256] : List Int)) := ⟨_, rfl⟩
          replace H : (if (strOfNums y145).size + x3_1.size ≤ 9223372036854775807 then (logbookref22_Hex.l0 k1 (IntKind.u64.wrap (Int.tdiv x0_1 16)) ((strOfNums y145) ++ x3_1) (wrap64 (x4_1 + 1))) else (none)) = some r := by first | (rw [hy145]; with_reducible exact H) | (have H2_ := (Option.bind_some _ _).symm.trans H; rw [hy145]; with_reducible exact H2_) | (have H2_ := (Option.bind_some _ _).symm.trans H; with_reducible exact H2_) | with_reducible exact H | (rw [hy145]; exact H) | exact H
          have Ny145 := Aside0.mk hy145
          clear hy145
          by_cases c4 : (strOfNums y145).size + x3_1.size ≤ 9223372036854775807
          · rw [if_pos c4] at H
            have c4b0 := eq_true c4
            have c4b1 : decide ((strOfNums y145).size + x3_1.size ≤ 9223372036854775807) = true := decide_eq_true c4
            try have c4b2 : (9223372036854775807 < (strOfNums y145).size + x3_1.size) = False := eq_false (Nat.not_lt.2 c4)
            have H' := Aside0.mk H
            clear H
            go_wp2_with (first | ((with_reducible refine gate_dst (N := 22) rfl ?_); refine Kd.R_lit (Kd.int .u8) _ 5 ?hg (N := 22) ?hd (xs := ([(97 + ((((Int.tmod x0_1 16) % 256) - 10) % 256)) % 256] : List Int)) (inner := [.int .u8 ((97 + ((((Int.tmod x0_1 16) % 256) - 10) % 256)) % 256)]) (ok := fun _ => True) (okp := fun _ => True) ?hr ?hp (fun _ hk => hk) trivial (Below.refl _ _) (Nat.le_refl _) (by simp) ?_; (case hd => rfl); (case hg => rfl); (case hr => first | (go_simp; done) | (go_simp; rfl)); (case hp => exact (Reps.one (show Kd.M (Kd.int .u8) _ _ _ ((97 + ((((Int.tmod x0_1 16) % 256) - 10) % 256)) % 256) [.int .u8 ((97 + ((((Int.tmod x0_1 16) % 256) - 10) % 256)) % 256)] from rfl) (Reps.none _ _))); intro v146 w5 ho6 hb hg_ hnew_; clear hg_ hnew_; (first | rw [← Ny145.out] at ho6 | (simp only [Int.reduceToNat] at ho6; rw [← Ny145.out] at ho6)); have n0_ := Aside0.mk (Kd.R_lower ho6 (below_size (by repeat (first | (with_reducible first | exact HB.out | apply below_alloc | apply pw_below_drewN | apply below_drew1) | exact HB.out)))); have n1_ := Aside0.mk (below_step (by repeat (first | (with_reducible first | exact HB.out | apply below_alloc | apply pw_below_drewN | apply below_drew1) | exact HB.out)) hb); clear HB; have HO147 := n0_; have HB := n1_; clear n0_ n1_; clear hb ho6; have hcv7 := own_string (P := Tryd.prog) Tryd.underlying55 Tryd.underlying5 Tryd.underlying9 (Kd.own_of_R HO147.out)))
            go_roundg k1
            case measure => have := HK1.out; omega
            case rel => exact ⟨(IntKind.u64.wrap (Int.tdiv x0_1 16)), ((strOfNums y145) ++ x3_1), (wrap64 (x4_1 + 1)), (by first | rfl | (simp; done) | (simp [*]; done) | exact isEmpty_bne _), (by first | rfl | (simp; done) | (simp [*]; done) | exact isEmpty_bne _), (by first | rfl | (simp; done) | (simp [*]; done) | exact isEmpty_bne _), H', ⟨by have := HK1.out; omega⟩, ⟨by repeat (first | (with_reducible first | exact HB.out | apply below_alloc | apply pw_below_drewN | apply below_drew1) | exact HB.out)⟩⟩
          · rw [if_neg c4] at H
            exact absurd H (by simp)
        · rw [if_neg c3] at H
          have c3b0 : decide (9 < ((Int.tmod x0_1 16) % 256)) = false := decide_eq_false c3
          clear c3
          obtain ⟨y148, hy148⟩ : ∃ y_ : List Int, y_ = (([(48 + ((Int.tmod x0_1 16) % 256)) % 256] : List Int)) := ⟨_, rfl⟩
          replace H : (if (strOfNums y148).size + x3_1.size ≤ 9223372036854775807 then (logbookref22_Hex.l0 k1 (IntKind.u64.wrap (Int.tdiv x0_1 16)) ((strOfNums y148) ++ x3_1) (wrap64 (x4_1 + 1))) else (none)) = some r := by first | (rw [hy148]; with_reducible exact H) | (have H2_ := (Option.bind_some _ _).symm.trans H; rw [hy148]; with_reducible exact H2_) | (have H2_ := (Option.bind_some _ _).symm.trans H; with_reducible exact H2_) | with_reducible exact H | (rw [hy148]; exact H) | exact H
          have Ny148 := Aside0.mk hy148
          clear hy148
          by_cases c8 : (strOfNums y148).size + x3_1.size ≤ 9223372036854775807
          · rw [if_pos c8] at H
            have c8b0 := eq_true c8
            have c8b1 : decide ((strOfNums y148).size + x3_1.size ≤ 9223372036854775807) = true := decide_eq_true c8
            try have c8b2 : (9223372036854775807 < (strOfNums y148).size + x3_1.size) = False := eq_false (Nat.not_lt.2 c8)
            have H' := Aside0.mk H
            clear H
            go_wp2_with (first | ((with_reducible refine gate_dst (N := 22) rfl ?_); refine Kd.R_lit (Kd.int .u8) _ 5 ?hg (N := 22) ?hd (xs := ([(48 + ((Int.tmod x0_1 16) % 256)) % 256] : List Int)) (inner := [.int .u8 ((48 + ((Int.tmod x0_1 16) % 256)) % 256)]) (ok := fun _ => True) (okp := fun _ => True) ?hr ?hp (fun _ hk => hk) trivial (Below.refl _ _) (Nat.le_refl _) (by simp) ?_; (case hd => rfl); (case hg => rfl); (case hr => first | (go_simp; done) | (go_simp; rfl)); (case hp => exact (Reps.one (show Kd.M (Kd.int .u8) _ _ _ ((48 + ((Int.tmod x0_1 16) % 256)) % 256) [.int .u8 ((48 + ((Int.tmod x0_1 16) % 256)) % 256)] from rfl) (Reps.none _ _))); intro v149 w9 ho10 hb hg_ hnew_; clear hg_ hnew_; (first | rw [← Ny148.out] at ho10 | (simp only [Int.reduceToNat] at ho10; rw [← Ny148.out] at ho10)); have n0_ := Aside0.mk (Kd.R_lower ho10 (below_size (by repeat (first | (with_reducible first | exact HB.out | apply below_alloc | apply pw_below_drewN | apply below_drew1) | exact HB.out)))); have n1_ := Aside0.mk (below_step (by repeat (first | (with_reducible first | exact HB.out | apply below_alloc | apply pw_below_drewN | apply below_drew1) | exact HB.out)) hb); clear HB; have HO150 := n0_; have HB := n1_; clear n0_ n1_; clear hb ho10; have hcv11 := own_string (P := Tryd.prog) Tryd.underlying55 Tryd.underlying5 Tryd.underlying9 (Kd.own_of_R HO150.out)))
            go_roundg k1
            case measure => have := HK1.out; omega
            case rel => exact ⟨(IntKind.u64.wrap (Int.tdiv x0_1 16)), ((strOfNums y148) ++ x3_1), (wrap64 (x4_1 + 1)), (by first | rfl | (simp; done) | (simp [*]; done) | exact isEmpty_bne _), (by first | rfl | (simp; done) | (simp [*]; done) | exact isEmpty_bne _), (by first | rfl | (simp; done) | (simp [*]; done) | exact isEmpty_bne _), H', ⟨by have := HK1.out; omega⟩, ⟨by repeat (first | (with_reducible first | exact HB.out | apply below_alloc | apply pw_below_drewN | apply below_drew1) | exact HB.out)⟩⟩
          · rw [if_neg c8] at H
            exact absurd H (by simp)
      · rw [if_neg c2] at H
        have c2b0 : decide (x4_1 < 16) = false := decide_eq_false c2
        clear c2
        obtain rfl := Option.some.inj H
        go_wp2
        go_ret
        exact ⟨by first | rfl | (simp [errW_none, errW_some] <;> rfl) | (simp [*, errW_none, errW_some] <;> rfl), by repeat (first | (with_reducible first | exact HB.out | apply below_alloc | apply pw_below_drewN | apply below_drew1) | exact HB.out)⟩

/-! ### logbookref29_Hex: function 15 -/
def logbookref29_Hex.l0 : Nat → ByteArray → Option (ByteArray)
  | 0, _ => none
  | k + 1, x3 => if (x3.size : Int) > 1 then (if 0 < (x3.size : Int) then (if (bt x3 0) = 48 then (if 1 ≤ (x3.size : Int) then (logbookref29_Hex.l0 k (x3.extract 1 x3.size)) else (none)) else (some x3)) else (none)) else (some x3)
def logbookref29_Hex.f (k : Nat) (a0 : Int) : Option (ByteArray) := (logbookref22_Hex.f k a0).bind fun t151 => (logbookref29_Hex.l0 k t151)
theorem logbookref29_Hex.mono_l : ∀ k, (∀ y0, LeO (logbookref29_Hex.l0 k y0) (logbookref29_Hex.l0 (k + 1) y0))
  | 0 => fun _ r h => by simp [logbookref29_Hex.l0] at h
  | k + 1 => by
    have ih0 := logbookref29_Hex.mono_l k
    · intro y0
      unfold logbookref29_Hex.l0
      repeat' first
      | (with_reducible exact ih0 _)
      | (with_reducible exact logbookref22_Hex.mono _ _)
      | (with_reducible exact LeO.refl _)
      | (with_reducible exact LeO.none _)
      | (with_reducible refine LeO.ite ?_ ?_)
      | (with_reducible refine LeO.bind ?_ (fun _ => ?_))
      | exact ih0 _
      | exact logbookref22_Hex.mono _ _
      | exact LeO.none _
      | refine LeO.ite ?_ ?_
      | refine LeO.bind ?_ (fun _ => ?_)
theorem logbookref29_Hex.mono : ∀ a0 k, LeO (logbookref29_Hex.f k a0) (logbookref29_Hex.f (k + 1) a0) := by
  intro a0 k
  have ih0 := logbookref29_Hex.mono_l k
  unfold logbookref29_Hex.f
  repeat' first
      | (with_reducible exact ih0 _)
      | (with_reducible exact logbookref22_Hex.mono _ _)
      | (with_reducible exact LeO.refl _)
      | (with_reducible exact LeO.none _)
      | (with_reducible refine LeO.ite ?_ ?_)
      | (with_reducible refine LeO.bind ?_ (fun _ => ?_))
      | exact ih0 _
      | exact logbookref22_Hex.mono _ _
      | exact LeO.none _
      | refine LeO.ite ?_ ?_
      | refine LeO.bind ?_ (fun _ => ?_)
set_option maxHeartbeats 8000000 in
set_option maxRecDepth 100000 in
theorem logbookref29_Hex.calls (k : Nat) (a0 : Int) (r : ByteArray) (w : World) (h : logbookref29_Hex.f k a0 = some r) :
    Calls Tryd.prog 15 #[.int .u64 a0] w fun e w' => e = .returned (.string r) ∧ Below w.heap.size w w' := by
  have HB := Aside0.mk (Below.refl w.heap.size w)
  have H : ((logbookref22_Hex.f k a0).bind fun t151 => (logbookref29_Hex.l0 k t151)) = some r := h
  clear h
  replace H := Option.bind_eq_some_iff.mp H
  obtain ⟨t151, A20, H⟩ := H
  replace H : (logbookref29_Hex.l0 k t151) = some r := H
  have A2 := Aside0.mk A20
  clear A20
  have H' := Aside0.mk H
  clear H
  go_enter Tryd.func15, Tryd.ntmps15
  go_wp2_with (first | ((with_reducible refine gate_callee (f := 23) rfl ?_); refine goesL_ (some 5) rfl rfl Tryd.func23 (by kernel_rfl) rfl #[.int .u64 a0] rfl (by (try simp only [List.map_toArray, List.map_cons, List.map_nil]); first | done | rfl | (simp only [List.length_drop, List.length_take]; rfl)) ?_; (with_reducible refine (logbookref22_Hex.calls k a0 t151 _ A2.out).mono ?_); rintro e w3 ⟨rfl, hb⟩; refine ⟨_, rfl, ?_⟩; have n0_ := Aside0.mk (below_step (by repeat (first | (with_reducible first | exact HB.out | apply below_alloc | apply pw_below_drewN | apply below_drew1) | exact HB.out)) hb); clear HB; have HB := n0_; clear n0_; (try clear hb); (try clear hb2); (try clear hk); (try clear hi)))
  go_loopg [3] k (fun kq v3 w' => ∃ (x3_1 : ByteArray), v3 = .string x3_1 ∧ Aside0 (logbookref29_Hex.l0 kq x3_1 = some r) ∧ Aside0 (kq ≤ k) ∧ Aside0 (Below w.heap.size w w'))
  case atStart => exact ⟨(t151), (by first | rfl | (simp; done) | (simp [*]; done) | exact isEmpty_bne _), H', ⟨Nat.le_refl _⟩, ⟨by repeat (first | (with_reducible first | exact HB.out | apply below_alloc | apply pw_below_drewN | apply below_drew1) | exact HB.out)⟩⟩
  case round =>
    clear H'
    try clear c1
    try clear c2
    try clear p2
    obtain ⟨x3_1, rfl, HA, HK1, HB⟩ := hrel
    cases gk with
    | zero => exact absurd HA.out (by simp [logbookref29_Hex.l0])
    | succ k1 =>
      have H := HA.out
      clear HA
      simp only [logbookref29_Hex.l0] at H
      by_cases c4 : (x3_1.size : Int) > 1
      · rw [if_pos c4] at H
        have c4b0 : decide (1 < (x3_1.size : Int)) = true := decide_eq_true c4
        have c4b1 : decide (1 < x3_1.size) = true := decide_eq_true (by omega)
        clear c4
        by_cases c5 : 0 < (x3_1.size : Int)
        · rw [if_pos c5] at H
          have c5b0 : decide (0 < (x3_1.size : Int)) = true := decide_eq_true c5
          have c5b1 : decide (0 < x3_1.size) = true := decide_eq_true (by omega)
          clear c5
          by_cases c7 : (bt x3_1 0) = 48
          · rw [if_pos c7] at H
            have c7b0 : ((bt x3_1 0) == 48) = true := beq_iff_eq.mpr c7
            have c7b1 : ((bt x3_1 0) != 48) = false := bne_eq_false_iff_eq.mpr c7
            clear c7
            by_cases c8 : 1 ≤ (x3_1.size : Int)
            · rw [if_pos c8] at H
              have c8b0 := eq_true c8
              have c8b1 : decide (1 ≤ (x3_1.size : Int)) = true := decide_eq_true c8
              clear c8
              have H' := Aside0.mk H
              clear H
              have p6 : 0 ≤ (0 : Int) := (by omega)
              have q6 : 0 < x3_1.size := (by have : (0 : Int) < (x3_1.size : Int) := of_decide_eq_true (by first | (with_reducible assumption) | assumption); omega)
              have hx6 : ∀ h : 0 < x3_1.size, ((x3_1[0]'h).toNat : Int) = bt x3_1 0 := bt_at x3_1 0
              clear p6
              have qi6 : (0 < (x3_1.size : Int)) = True := eq_true (of_decide_eq_true (by first | (with_reducible assumption) | assumption))
              replace q6 := eq_true q6
              go_wp2
              go_roundg k1
              case measure => have := HK1.out; omega
              case rel => exact ⟨(x3_1.extract 1 x3_1.size), (by first | rfl | (simp; done) | (simp [*]; done) | exact isEmpty_bne _), H', ⟨by have := HK1.out; omega⟩, ⟨by repeat (first | (with_reducible first | exact HB.out | apply below_alloc | apply pw_below_drewN | apply below_drew1) | exact HB.out)⟩⟩
            · rw [if_neg c8] at H
              exact absurd H (by simp)
          · rw [if_neg c7] at H
            have c7b0 : ((bt x3_1 0) == 48) = false := beq_eq_false_iff_ne.mpr c7
            have c7b1 : ((bt x3_1 0) != 48) = true := bne_iff_ne.mpr c7
            obtain rfl := Option.some.inj H
            have p6 : 0 ≤ (0 : Int) := (by omega)
            have q6 : 0 < x3_1.size := (by have : (0 : Int) < (x3_1.size : Int) := of_decide_eq_true (by first | (with_reducible assumption) | assumption); omega)
            have hx6 : ∀ h : 0 < x3_1.size, ((x3_1[0]'h).toNat : Int) = bt x3_1 0 := bt_at x3_1 0
            clear p6
            have qi6 : (0 < (x3_1.size : Int)) = True := eq_true (of_decide_eq_true (by first | (with_reducible assumption) | assumption))
            replace q6 := eq_true q6
            go_wp2
            go_ret
            exact ⟨by first | rfl | (simp [errW_none, errW_some] <;> rfl) | (simp [*, errW_none, errW_some] <;> rfl), by repeat (first | (with_reducible first | exact HB.out | apply below_alloc | apply pw_below_drewN | apply below_drew1) | exact HB.out)⟩
        · rw [if_neg c5] at H
          exact absurd H (by simp)
      · rw [if_neg c4] at H
        have c4b0 : decide (1 < (x3_1.size : Int)) = false := decide_eq_false c4
        have c4b1 : decide (1 < x3_1.size) = false := decide_eq_false (by omega)
        clear c4
        obtain rfl := Option.some.inj H
        go_wp2
        go_ret
        exact ⟨by first | rfl | (simp [errW_none, errW_some] <;> rfl) | (simp [*, errW_none, errW_some] <;> rfl), by repeat (first | (with_reducible first | exact HB.out | apply below_alloc | apply pw_below_drewN | apply below_drew1) | exact HB.out)⟩

end Go.Proofs.YtmoodnnfghbilaaDoor.PCursorReads
