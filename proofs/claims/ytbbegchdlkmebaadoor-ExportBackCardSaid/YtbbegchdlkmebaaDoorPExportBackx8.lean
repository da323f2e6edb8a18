-- LAID BY gprint.py: a scratch copy of the print, with functions that this session proved by hand among the printed ones
import Derived.Test.YtbbegchdlkmebaaDoorPExportBackx0
import Derived.Test.YtbbegchdlkmebaaDoorPExportBackx2
import Derived.Test.YtbbegchdlkmebaaDoorPExportBackx7
namespace Go.Proofs.YtbbegchdlkmebaaDoor.PExportBack
open Go.RowKit Go.Proofs.YtbbegchdlkmebaaDoorW.PrintWords Go.Proofs.YtbbegchdlkmebaaDoorW.PrintLast Go.Proofs.YtbbegchdlkmebaaDoor.Conv Go.Proofs.YtbbegchdlkmebaaDoor.Bld Go.Proofs.YtbbegchdlkmebaaDoorW.PrintMore
attribute [local go_sem] max2_int min2_int max_two min_two max_three min_three max_four min_four gtr_less   -- for this text's walks alone
set_option linter.unusedVariables false
set_option linter.unusedSimpArgs false

-- GIVEN rounds=1 making=1 needs=strings.Split,strings.Cut,logbook/name.Number,logbook/cursor.number
/-! ### cursor.Parse: by hand: an array filled place by place, by one function or another -/
abbrev curKeys : ByteArray := ⟨#[115, 105, 98, 109, 116, 120]⟩
def curRead (k q : Nat) (v : ByteArray) : Option (Int × Bool) := if q = 0 ∨ q = 2 then name_Number.f v else cursor_number.f k v
def curGo (k : Nat) : Nat → List ByteArray → Option (Option (List Int))
  | _, [] => some (some [])
  | q, p :: ps => (strings_Cut.f p (⟨#[61]⟩ : ByteArray)).bind fun c => if c.2.2 = true ∧ c.1.toList = (curKeys.extract q (q + 1)).toList then (curRead k q c.2.1).bind fun n => if n.2 = true then (curGo k (q + 1) ps).bind fun o => some (o.map (n.1 :: ·)) else some none else some none
def curEnd : Option (List Int) → Option (Int × Int × Int × Int × Int × Int × Int)
  | some [a, b, c, d, e, f] => some (a, b, c, d, e, f, 0)
  | some _ => none
  | none => some (0, 0, 0, 0, 0, 0, 28)
def cursor_Parse.f (k : Nat) (a0 : ByteArray) : Option (Int × Int × Int × Int × Int × Int × Int) :=
  (strings_Split.f k a0 (⟨#[59]⟩ : ByteArray)).bind fun ps => if ps.length = 6 then (curGo k 0 ps).bind curEnd else some (0, 0, 0, 0, 0, 0, 28)
theorem curRead_mono : ∀ q v k, LeO (curRead k q v) (curRead (k + 1) q v) := by
  intro q v k
  unfold curRead
  exact LeO.ite (LeO.refl _) (cursor_number.mono _ _)
theorem curGo_mono : ∀ ps q k, LeO (curGo k q ps) (curGo (k + 1) q ps)
  | [], q, k => LeO.refl _
  | p :: ps, q, k => by
    have ih := curGo_mono ps (q + 1) k
    unfold curGo
    repeat' first
      | (with_reducible exact ih)
      | (with_reducible exact curRead_mono _ _ _)
      | (with_reducible exact LeO.refl _)
      | (with_reducible refine LeO.ite ?_ ?_)
      | (with_reducible refine LeO.bind ?_ (fun _ => ?_))
theorem cursor_Parse.mono : ∀ a0 k, LeO (cursor_Parse.f k a0) (cursor_Parse.f (k + 1) a0) := by
  intro a0 k
  unfold cursor_Parse.f
  repeat' first
    | (with_reducible exact strings_Split.mono _ _ _)
    | (with_reducible exact curGo_mono _ _ _)
    | (with_reducible exact LeO.refl _)
    | (with_reducible refine LeO.ite ?_ ?_)
    | (with_reducible refine LeO.bind ?_ (fun _ => ?_))
def cur6 (acc : List Int) : Array Value := ((acc ++ List.replicate (6 - acc.length) 0).map (Value.int .u64)).toArray
theorem cur6_get (acc : List Int) (q : Nat) (hq : acc.length = q ∧ q < 6) : (cur6 acc)[q]? = some (.int .u64 0) := by
  unfold cur6
  rw [List.getElem?_toArray, List.getElem?_map, List.getElem?_append_right (by omega), List.getElem?_replicate, if_pos (by omega)]
  rfl
theorem cur6_put (acc : List Int) (q : Nat) (n : Int) (h : acc.length = q) (hq : q < 6) : cur6 (acc ++ [n]) = (cur6 acc).setIfInBounds q (.int .u64 n) := by
  subst h
  match acc, hq with
  | [], _ => rfl
  | [a], _ => rfl
  | [a, b], _ => rfl
  | [a, b, c], _ => rfl
  | [a, b, c, d], _ => rfl
  | [a, b, c, d, e], _ => rfl
  | a :: b :: c :: d :: e :: f :: r, hq => exact absurd hq (by simp only [List.length_cons]; omega)
theorem curRead_some (k : Nat) (p : ByteArray) (ps : List ByteArray) (q : Nat) (c1 c2 : ByteArray) (o : Option (List Int)) (hc : strings_Cut.f p (⟨#[61]⟩ : ByteArray) = some (c1, c2, true)) (hk : c1.toList = (curKeys.extract q (q + 1)).toList) (h : curGo k q (p :: ps) = some o) : ∃ n b, curRead k q c2 = some (n, b) := by
  rw [curGo, hc] at h
  have h' : (if true = true ∧ c1.toList = (curKeys.extract q (q + 1)).toList then (curRead k q c2).bind fun n => if n.2 = true then (curGo k (q + 1) ps).bind fun o => some (o.map (n.1 :: ·)) else some none else some none) = some o := h
  rw [if_pos ⟨rfl, hk⟩] at h'
  obtain ⟨x, hx, _⟩ := Option.bind_eq_some_iff.1 h'
  exact ⟨x.1, x.2, hx⟩
theorem curGo_next (k : Nat) (p : ByteArray) (ps : List ByteArray) (q : Nat) (acc : List Int) (c1 c2 : ByteArray) (n : Int) (hc : strings_Cut.f p (⟨#[61]⟩ : ByteArray) = some (c1, c2, true)) (hk : c1.toList = (curKeys.extract q (q + 1)).toList) (hr : curRead k q c2 = some (n, true)) :
    (curGo k q (p :: ps)).bind (fun o => some (o.map (acc ++ ·))) = (curGo k (q + 1) ps).bind (fun o => some (o.map ((acc ++ [n]) ++ ·))) := by
  rw [curGo, hc]
  show ((if true = true ∧ c1.toList = (curKeys.extract q (q + 1)).toList then (curRead k q c2).bind fun n => if n.2 = true then (curGo k (q + 1) ps).bind fun o => some (o.map (n.1 :: ·)) else some none else some none).bind _) = _
  rw [if_pos ⟨rfl, hk⟩, hr]
  show (((curGo k (q + 1) ps).bind fun o => some (o.map (n :: ·))).bind _) = _
  cases curGo k (q + 1) ps with
  | none => rfl
  | some o =>
    cases o with
    | none => rfl
    | some x => simp
theorem curGo_stop (k : Nat) (p : ByteArray) (ps : List ByteArray) (q : Nat) (c1 c2 : ByteArray) (c3 : Bool) (hc : strings_Cut.f p (⟨#[61]⟩ : ByteArray) = some (c1, c2, c3)) (hk : ¬ (c3 = true ∧ c1.toList = (curKeys.extract q (q + 1)).toList)) : curGo k q (p :: ps) = some none := by
  rw [curGo, hc]
  exact if_neg hk
theorem curGo_bad (k : Nat) (p : ByteArray) (ps : List ByteArray) (q : Nat) (c1 c2 : ByteArray) (n : Int) (hc : strings_Cut.f p (⟨#[61]⟩ : ByteArray) = some (c1, c2, true)) (hk : c1.toList = (curKeys.extract q (q + 1)).toList) (hr : curRead k q c2 = some (n, false)) : curGo k q (p :: ps) = some none := by
  rw [curGo, hc]
  show (if true = true ∧ c1.toList = (curKeys.extract q (q + 1)).toList then (curRead k q c2).bind fun n => if n.2 = true then (curGo k (q + 1) ps).bind fun o => some (o.map (n.1 :: ·)) else some none else some none) = _
  rw [if_pos ⟨rfl, hk⟩, hr]
  rfl
set_option maxHeartbeats 12800000 in
set_option maxRecDepth 100000 in
theorem cursor_Parse.calls (k : Nat) (a0 : ByteArray) (r1 r2 r3 r4 r5 r6 r7 : Int) (w : World) (h : cursor_Parse.f k a0 = some (r1, r2, r3, r4, r5, r6, r7)) :
    Calls Tryd.prog 33 #[.string a0] w fun e w' => e = .returned (.tuple #[.agg #[.int .u64 r1, .int .u64 r2, .int .u64 r3, .int .u64 r4, .int .u64 r5, .int .u64 r6], .int .i64 r7]) ∧ Below w.heap.size w w' := by
  unfold cursor_Parse.f at h
  obtain ⟨ps, hps, h2⟩ := Option.bind_eq_some_iff.1 h
  clear h
  have hu := Tryd.underlying30
  have hu2 := Tryd.underlying23
  have HBX : Hid (Below w.heap.size w (w.alloc (.cells #[.int .u64 0, .int .u64 0, .int .u64 0, .int .u64 0, .int .u64 0, .int .u64 0] 30))) := Lib.hid ((Below.refl _ _).alloc (Nat.le_refl _) _)
  have HR0 : Hid ((w.alloc (.cells #[.int .u64 0, .int .u64 0, .int .u64 0, .int .u64 0, .int .u64 0, .int .u64 0] 30)).heap[w.heap.size]? = some (.cells #[.int .u64 0, .int .u64 0, .int .u64 0, .int .u64 0, .int .u64 0, .int .u64 0] 30 (0, 0))) := Lib.hid (heap_alloc_new _ _)
  have HPS := Lib.hid hps
  clear hps
  by_cases hl : ps.length = 6
  case neg =>
    rw [if_neg hl] at h2
    have hz : Hid (r1 = 0 ∧ r2 = 0 ∧ r3 = 0 ∧ r4 = 0 ∧ r5 = 0 ∧ r6 = 0 ∧ r7 = 28) := Lib.hid (by
      simp only [Option.some.injEq, Prod.mk.injEq] at h2
      obtain ⟨rfl, rfl, rfl, rfl, rfl, rfl, rfl⟩ := h2
      exact ⟨rfl, rfl, rfl, rfl, rfl, rfl, rfl⟩)
    have hl' : ((ps.length : Int) != 6) = true := bne_iff_ne.2 (by omega)
    clear h2 hl
    go_enter Tryd.func33, Tryd.ntmps33
    go_wp2_with (first
      | (go_at_call 48; (with_reducible refine (strings_Split.calls k a0 _ ps _ HPS.out).mono ?_); rintro e w2 ⟨v0, rfl, hR, hB⟩; obtain ⟨A0, c0, rfl⟩ := Kd.R_slice hR; have HBLT := Lib.hid (blk_below HR0.out hB); have HBT := Lib.hid (below_then HBX.out (by simp) hB); clear hR hB)
      | (refine store_ev rfl 30 _ _ rfl rfl w.heap.size #[.int .u64 0, .int .u64 0, .int .u64 0, .int .u64 0, .int .u64 0, .int .u64 0] rfl rfl 30 _ HBLT.out (by kernel_rfl) (by kernel_rfl) (by kernel_rfl) ?_; intro w9 hb9 hp9; have HB9 := Lib.hid hb9; have HP9 := Lib.hid hp9; clear hb9 hp9))
    refine bodyPost_ret (results_ct rfl _ _ w.heap.size 30 #[.int .u64 0, .int .u64 0, .int .u64 0, .int .u64 0, .int .u64 0, .int .u64 0] (0, 0) _ rfl HB9.out hu rfl (by kernel_rfl)) rfl ?_
    obtain ⟨rfl, rfl, rfl, rfl, rfl, rfl, rfl⟩ := hz.out
    exact ⟨rfl, HP9.out.below HBT.out (Nat.le_refl _)⟩
  rw [if_pos hl] at h2
  have HH := Lib.hid h2
  have HL := Lib.hid hl
  have hl' : ((ps.length : Int) != 6) = false := bne_eq_false_iff_eq.2 (by omega)
  have hle : ps.length ≤ 6 := by omega
  have hge : 6 ≤ ps.length := by omega
  clear h2 hl
  go_enter Tryd.func33, Tryd.ntmps33
  go_wp2_with (first
      | (go_at_call 48; (with_reducible refine (strings_Split.calls k a0 _ ps _ HPS.out).mono ?_); rintro e w2 ⟨v0, rfl, hR, hB⟩; obtain ⟨g, c0, rfl, hg1, hg2, _⟩ := Kd.R_form hR (by omega); have HR := Lib.hid hR; have HBL := Lib.hid (blk_below HR0.out hB); have HB2 := Lib.hid (below_then HBX.out (by simp) hB); have HO := Lib.hid (heap_alloc_new w2 (.cells #[.int .u64 0, .int .u64 0, .int .u64 0, .int .u64 0, .int .u64 0, .int .u64 0] 23)); clear hR hB))
  have HBA : Hid (Below w2.heap.size w2 (w2.alloc (.cells #[.int .u64 0, .int .u64 0, .int .u64 0, .int .u64 0, .int .u64 0, .int .u64 0] 23))) := Lib.hid ((Below.refl _ _).alloc (Nat.le_refl _) _)
  obtain ⟨G, hG⟩ : ∃ G, G = w2.heap.size := ⟨_, rfl⟩
  have HG : Hid (w2.heap.size ≤ G) := Lib.hid (by omega)
  rw [← hG] at HO ⊢
  clear hG HBX HR0 HPS hg1
  go_loopw [21] (fun i wr => ∃ (q : Nat) (acc : List Int), q ≤ 6 ∧ acc.length = q ∧ i = .int .i64 q ∧ Hid (curGo k 0 ps = (curGo k q (ps.drop q)).bind (fun o => some (o.map (acc ++ ·)))) ∧ Hid (wr.heap[G]? = some (.cells (cur6 acc) 23 (0, 0))) ∧ Hid (Below w2.heap.size w2 wr)) (fun i _ => 6 - (intOf i).toNat)
  case atStart =>
    refine ⟨0, [], by omega, rfl, rfl, Lib.hid ?_, HO, HBA⟩
    rw [List.drop_zero]
    cases curGo k 0 ps with
    | none => rfl
    | some o => cases o <;> rfl
  case round =>
    obtain ⟨q, acc, hq, hac, rfl, hcg, hO, hBr⟩ := hrel
    by_cases hlt : q < 6
    · have hlq : q < ps.length := by omega
      have hcell : wr.cell? ⟨g, q, none⟩ = some (.string (ps.getD q ByteArray.empty)) := by
        rw [Below.cell hBr.out (p := ⟨g, q, none⟩) hg2]
        exact R_str HR.out q hlq
      have hdr : ps.drop q = ps.getD q ByteArray.empty :: ps.drop (q + 1) := by
        rw [List.drop_eq_getElem_cons hlq, List.getD_eq_getElem?_getD, List.getElem?_eq_getElem hlq]
        rfl
      have hcg2 := hcg.out
      rw [hdr] at hcg2
      generalize ps.getD q ByteArray.empty = p at hcell hcg2
      have h := HH.out
      rw [hcg2] at h
      obtain ⟨c1, c2, c3, hcut⟩ : ∃ c1 c2 c3, strings_Cut.f p (⟨#[61]⟩ : ByteArray) = some (c1, c2, c3) := by
        cases hc : strings_Cut.f p (⟨#[61]⟩ : ByteArray) with
        | none => rw [curGo, hc] at h; cases h
        | some c => exact ⟨c.1, c.2.1, c.2.2, rfl⟩
      have HCUT := Lib.hid hcut
      have HCG := Lib.hid hcg2
      have HS := Lib.hid h
      have q0 : (0 : Int) ≤ (q : Int) := by omega
      have q1 : (q : Int) < 6 := by omega
      have q2 : (q : Int) + 1 ≤ 6 := by omega
      have q3 : (q : Int) < (ps.length : Int) := by omega
      have hsl : ∀ W : World, (Instr.slice 9 (.string curKeys) (some (.int .i64 (q : Int))) (some (.int .i64 ((q : Int) + 1))) none).run Tryd.prog W = .ok (.string (curKeys.extract q (q + 1))) W := fun W => by
        have z := run_slice_string (P := Tryd.prog) W 9 curKeys .i64 .i64 (q : Int) ((q : Int) + 1) Tryd.underlying9 q0 (by omega) (by show (q : Int) + 1 ≤ ((6 : Nat) : Int); omega)
        rw [show ((q : Int)).toNat = q by omega, show ((q : Int) + 1).toNat = q + 1 by omega] at z
        exact z
      clear hcut hcg2 h hdr hcg
      by_cases hk : c3 = true ∧ c1.toList = (curKeys.extract q (q + 1)).toList
      case neg =>
        have hz : Hid (r1 = 0 ∧ r2 = 0 ∧ r3 = 0 ∧ r4 = 0 ∧ r5 = 0 ∧ r6 = 0 ∧ r7 = 28) := Lib.hid (by
          have h := HS.out
          rw [curGo_stop k p _ q c1 c2 c3 HCUT.out hk] at h
          simp only [Option.bind_some, Option.map_none, curEnd, Option.some.injEq, Prod.mk.injEq] at h
          obtain ⟨rfl, rfl, rfl, rfl, rfl, rfl, rfl⟩ := h
          exact ⟨rfl, rfl, rfl, rfl, rfl, rfl, rfl⟩)
        have hk' : c3 = false ∨ (c3 = true ∧ (c1.toList == (curKeys.extract q (q + 1)).toList) = false) := by
          cases c3
          · exact .inl rfl
          · exact .inr ⟨rfl, beq_false_of_ne (fun e => hk ⟨rfl, e⟩)⟩
        clear hk HS HCG
        rcases hk' with rfl | ⟨rfl, hkb⟩
        all_goals
          go_wp2_with (first
            | (go_at_call 42; (with_reducible refine (strings_Cut.calls _ _ c1 c2 _ _ HCUT.out).mono ?_); rintro e w4 ⟨rfl, nd, rfl⟩; have HBR := Lib.hid (pw_below_drewN hBr.out nd); have HOR : Hid ((wr.drewN nd).heap[G]? = some (.cells (cur6 acc) 23 (0, 0))) := Lib.hid hO.out; have HBT : Hid (Below w.heap.size w (wr.drewN nd)) := Lib.hid (HB2.out.trans (HBR.out.mono HB2.out.size)); have HBLT := Lib.hid (blk_below HBL.out HBR.out))
            | (refine store_ev rfl 30 _ _ rfl rfl w.heap.size #[.int .u64 0, .int .u64 0, .int .u64 0, .int .u64 0, .int .u64 0, .int .u64 0] rfl rfl 30 _ HBLT.out (by kernel_rfl) (by kernel_rfl) (by kernel_rfl) ?_; intro w9 hb9 hp9; have HB9 := Lib.hid hb9; have HP9 := Lib.hid hp9; clear hb9 hp9))
          refine bodyPost_ret (results_ct rfl _ _ w.heap.size 30 #[.int .u64 0, .int .u64 0, .int .u64 0, .int .u64 0, .int .u64 0, .int .u64 0] (0, 0) _ rfl HB9.out hu rfl (by kernel_rfl)) rfl ?_
          obtain ⟨rfl, rfl, rfl, rfl, rfl, rfl, rfl⟩ := hz.out
          exact ⟨rfl, HP9.out.below HBT.out (Nat.le_refl _)⟩
      obtain ⟨rfl, hk⟩ := hk
      have hkb : (c1.toList == (curKeys.extract q (q + 1)).toList) = true := by simp [hk]
      obtain ⟨n, b, hrd⟩ : ∃ n b, curRead k q c2 = some (n, b) := by
        obtain ⟨o1, ho1, _⟩ := Option.bind_eq_some_iff.1 HS.out
        obtain ⟨o2, ho2, _⟩ := Option.bind_eq_some_iff.1 ho1
        exact curRead_some k p _ q c1 c2 o2 HCUT.out hk ho2
      have HN : Hid (b = true → Hid (curGo k 0 ps = (curGo k (q + 1) (ps.drop (q + 1))).bind (fun o => some (o.map ((acc ++ [n]) ++ ·))))) := Lib.hid (fun hb => Lib.hid (by
        subst hb
        rw [HCG.out]
        exact curGo_next k p _ q acc c1 c2 n HCUT.out hk hrd))
      have HZ : Hid (b = false → (r1 = 0 ∧ r2 = 0 ∧ r3 = 0 ∧ r4 = 0 ∧ r5 = 0 ∧ r6 = 0 ∧ r7 = 28)) := Lib.hid (fun hb => by
        subst hb
        have h := HS.out
        rw [curGo_bad k p _ q c1 c2 n HCUT.out hk hrd] at h
        simp only [Option.bind_some, Option.map_none, curEnd, Option.some.injEq, Prod.mk.injEq] at h
        obtain ⟨rfl, rfl, rfl, rfl, rfl, rfl, rfl⟩ := h
        exact ⟨rfl, rfl, rfl, rfl, rfl, rfl, rfl⟩)
      clear hk HS HCG
      by_cases e0 : q = 0
      · have HRD : Hid (name_Number.f c2 = some (n, b)) := Lib.hid (by rw [← hrd]; unfold curRead; rw [if_pos (.inl e0)])
        have e1 : ((q : Int) == 0) = true := by rw [beq_iff_eq]; omega
        clear hrd e0
        cases b
        · have hz := HZ.out (by first | rfl | trivial)
          have hz := Lib.hid hz
          go_wp2_with (first
            | (go_at_call 42; (with_reducible refine (strings_Cut.calls _ _ c1 c2 _ _ HCUT.out).mono ?_); rintro e w4 ⟨rfl, nd, rfl⟩; have HBR := Lib.hid (pw_below_drewN hBr.out nd); have HOR : Hid ((wr.drewN nd).heap[G]? = some (.cells (cur6 acc) 23 (0, 0))) := Lib.hid hO.out; have HBT : Hid (Below w.heap.size w (wr.drewN nd)) := Lib.hid (HB2.out.trans (HBR.out.mono HB2.out.size)); have HBLT := Lib.hid (blk_below HBL.out HBR.out))
            | (go_at_call 50; (with_reducible refine (name_Number.calls c2 n false _ HRD.out).mono ?_); rintro e w5 ⟨rfl, hb5⟩; have HBR5 : Hid (Below w2.heap.size w2 w5) := Lib.hid (HBR.out.trans (hb5.mono HBR.out.size)); have HOR5 := Lib.hid (blk_below HOR.out hb5); clear HBT HBLT; have HBT : Hid (Below w.heap.size w w5) := Lib.hid (HB2.out.trans (HBR5.out.mono HB2.out.size)); have HBLT := Lib.hid (blk_below HBL.out HBR5.out); have k5 := blk_cell HOR5.out q; have f5 := blk_frozen HOR5.out q; rw [cur6_get acc q ⟨hac, by omega⟩] at k5; clear hb5)
            | (refine store_ev rfl 30 _ _ rfl rfl w.heap.size #[.int .u64 0, .int .u64 0, .int .u64 0, .int .u64 0, .int .u64 0, .int .u64 0] rfl rfl 30 _ HBLT.out (by kernel_rfl) (by kernel_rfl) (by kernel_rfl) ?_; intro w9 hb9 hp9; have HB9 := Lib.hid hb9; have HP9 := Lib.hid hp9; clear hb9 hp9))
          refine bodyPost_ret (results_ct rfl _ _ w.heap.size 30 #[.int .u64 0, .int .u64 0, .int .u64 0, .int .u64 0, .int .u64 0, .int .u64 0] (0, 0) _ rfl HB9.out hu rfl (by kernel_rfl)) rfl ?_
          obtain ⟨rfl, rfl, rfl, rfl, rfl, rfl, rfl⟩ := hz.out
          exact ⟨rfl, HP9.out.below HBT.out (Nat.le_refl _)⟩
        · go_wp2_with (first
            | (go_at_call 42; (with_reducible refine (strings_Cut.calls _ _ c1 c2 _ _ HCUT.out).mono ?_); rintro e w4 ⟨rfl, nd, rfl⟩; have HBR := Lib.hid (pw_below_drewN hBr.out nd); have HOR : Hid ((wr.drewN nd).heap[G]? = some (.cells (cur6 acc) 23 (0, 0))) := Lib.hid hO.out; have HBT : Hid (Below w.heap.size w (wr.drewN nd)) := Lib.hid (HB2.out.trans (HBR.out.mono HB2.out.size)); have HBLT := Lib.hid (blk_below HBL.out HBR.out))
            | (go_at_call 50; (with_reducible refine (name_Number.calls c2 n true _ HRD.out).mono ?_); rintro e w5 ⟨rfl, hb5⟩; have HBR5 : Hid (Below w2.heap.size w2 w5) := Lib.hid (HBR.out.trans (hb5.mono HBR.out.size)); have HOR5 := Lib.hid (blk_below HOR.out hb5); clear HBT HBLT; have HBT : Hid (Below w.heap.size w w5) := Lib.hid (HB2.out.trans (HBR5.out.mono HB2.out.size)); have HBLT := Lib.hid (blk_below HBL.out HBR5.out); have k5 := blk_cell HOR5.out q; have f5 := blk_frozen HOR5.out q; rw [cur6_get acc q ⟨hac, by omega⟩] at k5; clear hb5))
          go_roundw
          case rel => exact ⟨q + 1, acc ++ [n], by omega, by rw [List.length_append, hac]; rfl, by go_num, HN.out (by first | rfl | trivial), Lib.hid (by rw [cur6_put acc q n hac (by omega)]; exact blk_put HOR5.out q _ rfl), Lib.hid (HBR5.out.setCell (by first | exact HG.out | omega) _)⟩
          case measure => simp [intOf]; omega
      by_cases e2 : q = 2
      · have HRD : Hid (name_Number.f c2 = some (n, b)) := Lib.hid (by rw [← hrd]; unfold curRead; rw [if_pos (.inr e2)])
        have e1 : ((q : Int) == 0) = false := beq_false_of_ne (by omega)
        have e3 : ((q : Int) == 2) = true := by rw [beq_iff_eq]; omega
        clear hrd e0 e2
        cases b
        · have hz := HZ.out (by first | rfl | trivial)
          have hz := Lib.hid hz
          go_wp2_with (first
            | (go_at_call 42; (with_reducible refine (strings_Cut.calls _ _ c1 c2 _ _ HCUT.out).mono ?_); rintro e w4 ⟨rfl, nd, rfl⟩; have HBR := Lib.hid (pw_below_drewN hBr.out nd); have HOR : Hid ((wr.drewN nd).heap[G]? = some (.cells (cur6 acc) 23 (0, 0))) := Lib.hid hO.out; have HBT : Hid (Below w.heap.size w (wr.drewN nd)) := Lib.hid (HB2.out.trans (HBR.out.mono HB2.out.size)); have HBLT := Lib.hid (blk_below HBL.out HBR.out))
            | (go_at_call 50; (with_reducible refine (name_Number.calls c2 n false _ HRD.out).mono ?_); rintro e w5 ⟨rfl, hb5⟩; have HBR5 : Hid (Below w2.heap.size w2 w5) := Lib.hid (HBR.out.trans (hb5.mono HBR.out.size)); have HOR5 := Lib.hid (blk_below HOR.out hb5); clear HBT HBLT; have HBT : Hid (Below w.heap.size w w5) := Lib.hid (HB2.out.trans (HBR5.out.mono HB2.out.size)); have HBLT := Lib.hid (blk_below HBL.out HBR5.out); have k5 := blk_cell HOR5.out q; have f5 := blk_frozen HOR5.out q; rw [cur6_get acc q ⟨hac, by omega⟩] at k5; clear hb5)
            | (refine store_ev rfl 30 _ _ rfl rfl w.heap.size #[.int .u64 0, .int .u64 0, .int .u64 0, .int .u64 0, .int .u64 0, .int .u64 0] rfl rfl 30 _ HBLT.out (by kernel_rfl) (by kernel_rfl) (by kernel_rfl) ?_; intro w9 hb9 hp9; have HB9 := Lib.hid hb9; have HP9 := Lib.hid hp9; clear hb9 hp9))
          refine bodyPost_ret (results_ct rfl _ _ w.heap.size 30 #[.int .u64 0, .int .u64 0, .int .u64 0, .int .u64 0, .int .u64 0, .int .u64 0] (0, 0) _ rfl HB9.out hu rfl (by kernel_rfl)) rfl ?_
          obtain ⟨rfl, rfl, rfl, rfl, rfl, rfl, rfl⟩ := hz.out
          exact ⟨rfl, HP9.out.below HBT.out (Nat.le_refl _)⟩
        · go_wp2_with (first
            | (go_at_call 42; (with_reducible refine (strings_Cut.calls _ _ c1 c2 _ _ HCUT.out).mono ?_); rintro e w4 ⟨rfl, nd, rfl⟩; have HBR := Lib.hid (pw_below_drewN hBr.out nd); have HOR : Hid ((wr.drewN nd).heap[G]? = some (.cells (cur6 acc) 23 (0, 0))) := Lib.hid hO.out; have HBT : Hid (Below w.heap.size w (wr.drewN nd)) := Lib.hid (HB2.out.trans (HBR.out.mono HB2.out.size)); have HBLT := Lib.hid (blk_below HBL.out HBR.out))
            | (go_at_call 50; (with_reducible refine (name_Number.calls c2 n true _ HRD.out).mono ?_); rintro e w5 ⟨rfl, hb5⟩; have HBR5 : Hid (Below w2.heap.size w2 w5) := Lib.hid (HBR.out.trans (hb5.mono HBR.out.size)); have HOR5 := Lib.hid (blk_below HOR.out hb5); clear HBT HBLT; have HBT : Hid (Below w.heap.size w w5) := Lib.hid (HB2.out.trans (HBR5.out.mono HB2.out.size)); have HBLT := Lib.hid (blk_below HBL.out HBR5.out); have k5 := blk_cell HOR5.out q; have f5 := blk_frozen HOR5.out q; rw [cur6_get acc q ⟨hac, by omega⟩] at k5; clear hb5))
          go_roundw
          case rel => exact ⟨q + 1, acc ++ [n], by omega, by rw [List.length_append, hac]; rfl, by go_num, HN.out (by first | rfl | trivial), Lib.hid (by rw [cur6_put acc q n hac (by omega)]; exact blk_put HOR5.out q _ rfl), Lib.hid (HBR5.out.setCell (by first | exact HG.out | omega) _)⟩
          case measure => simp [intOf]; omega
      · have HRD : Hid (cursor_number.f k c2 = some (n, b)) := Lib.hid (by rw [← hrd]; unfold curRead; rw [if_neg (by omega)])
        have e1 : ((q : Int) == 0) = false := beq_false_of_ne (by omega)
        have e3 : ((q : Int) == 2) = false := beq_false_of_ne (by omega)
        clear hrd e0 e2
        cases b
        · have hz := HZ.out (by first | rfl | trivial)
          have hz := Lib.hid hz
          go_wp2_with (first
            | (go_at_call 42; (with_reducible refine (strings_Cut.calls _ _ c1 c2 _ _ HCUT.out).mono ?_); rintro e w4 ⟨rfl, nd, rfl⟩; have HBR := Lib.hid (pw_below_drewN hBr.out nd); have HOR : Hid ((wr.drewN nd).heap[G]? = some (.cells (cur6 acc) 23 (0, 0))) := Lib.hid hO.out; have HBT : Hid (Below w.heap.size w (wr.drewN nd)) := Lib.hid (HB2.out.trans (HBR.out.mono HB2.out.size)); have HBLT := Lib.hid (blk_below HBL.out HBR.out))
            | (go_at_call 49; (with_reducible refine (cursor_number.calls k c2 n false _ HRD.out).mono ?_); rintro e w5 ⟨rfl, hb5⟩; have HBR5 : Hid (Below w2.heap.size w2 w5) := Lib.hid (HBR.out.trans (hb5.mono HBR.out.size)); have HOR5 := Lib.hid (blk_below HOR.out hb5); clear HBT HBLT; have HBT : Hid (Below w.heap.size w w5) := Lib.hid (HB2.out.trans (HBR5.out.mono HB2.out.size)); have HBLT := Lib.hid (blk_below HBL.out HBR5.out); have k5 := blk_cell HOR5.out q; have f5 := blk_frozen HOR5.out q; rw [cur6_get acc q ⟨hac, by omega⟩] at k5; clear hb5)
            | (refine store_ev rfl 30 _ _ rfl rfl w.heap.size #[.int .u64 0, .int .u64 0, .int .u64 0, .int .u64 0, .int .u64 0, .int .u64 0] rfl rfl 30 _ HBLT.out (by kernel_rfl) (by kernel_rfl) (by kernel_rfl) ?_; intro w9 hb9 hp9; have HB9 := Lib.hid hb9; have HP9 := Lib.hid hp9; clear hb9 hp9))
          refine bodyPost_ret (results_ct rfl _ _ w.heap.size 30 #[.int .u64 0, .int .u64 0, .int .u64 0, .int .u64 0, .int .u64 0, .int .u64 0] (0, 0) _ rfl HB9.out hu rfl (by kernel_rfl)) rfl ?_
          obtain ⟨rfl, rfl, rfl, rfl, rfl, rfl, rfl⟩ := hz.out
          exact ⟨rfl, HP9.out.below HBT.out (Nat.le_refl _)⟩
        · go_wp2_with (first
            | (go_at_call 42; (with_reducible refine (strings_Cut.calls _ _ c1 c2 _ _ HCUT.out).mono ?_); rintro e w4 ⟨rfl, nd, rfl⟩; have HBR := Lib.hid (pw_below_drewN hBr.out nd); have HOR : Hid ((wr.drewN nd).heap[G]? = some (.cells (cur6 acc) 23 (0, 0))) := Lib.hid hO.out; have HBT : Hid (Below w.heap.size w (wr.drewN nd)) := Lib.hid (HB2.out.trans (HBR.out.mono HB2.out.size)); have HBLT := Lib.hid (blk_below HBL.out HBR.out))
            | (go_at_call 49; (with_reducible refine (cursor_number.calls k c2 n true _ HRD.out).mono ?_); rintro e w5 ⟨rfl, hb5⟩; have HBR5 : Hid (Below w2.heap.size w2 w5) := Lib.hid (HBR.out.trans (hb5.mono HBR.out.size)); have HOR5 := Lib.hid (blk_below HOR.out hb5); clear HBT HBLT; have HBT : Hid (Below w.heap.size w w5) := Lib.hid (HB2.out.trans (HBR5.out.mono HB2.out.size)); have HBLT := Lib.hid (blk_below HBL.out HBR5.out); have k5 := blk_cell HOR5.out q; have f5 := blk_frozen HOR5.out q; rw [cur6_get acc q ⟨hac, by omega⟩] at k5; clear hb5))
          go_roundw
          case rel => exact ⟨q + 1, acc ++ [n], by omega, by rw [List.length_append, hac]; rfl, by go_num, HN.out (by first | rfl | trivial), Lib.hid (by rw [cur6_put acc q n hac (by omega)]; exact blk_put HOR5.out q _ rfl), Lib.hid (HBR5.out.setCell (by first | exact HG.out | omega) _)⟩
          case measure => simp [intOf]; omega
    · obtain rfl : q = 6 := by omega
      have h := HH.out
      rw [hcg.out, List.drop_of_length_le hle] at h
      match acc, hac with
      | [x1, x2, x3, x4, x5, x6], _ =>
        have hz : Hid (r1 = x1 ∧ r2 = x2 ∧ r3 = x3 ∧ r4 = x4 ∧ r5 = x5 ∧ r6 = x6 ∧ r7 = 0) := Lib.hid (by
          simp only [curGo, Option.bind_some, Option.map_some, List.append_nil, curEnd, Option.some.injEq, Prod.mk.injEq] at h
          obtain ⟨rfl, rfl, rfl, rfl, rfl, rfl, rfl⟩ := h
          exact ⟨rfl, rfl, rfl, rfl, rfl, rfl, rfl⟩)
        have hO6 : Hid (wr.heap[G]? = some (.cells #[.int .u64 x1, .int .u64 x2, .int .u64 x3, .int .u64 x4, .int .u64 x5, .int .u64 x6] 23 (0, 0))) := hO
        have k0 := blk_cell hO6.out 0
        have k1 := blk_cell hO6.out 1
        have k2 := blk_cell hO6.out 2
        have k3 := blk_cell hO6.out 3
        have k4 := blk_cell hO6.out 4
        have k5 := blk_cell hO6.out 5
        simp at k0 k1 k2 k3 k4 k5
        have HBLT := Lib.hid (blk_below HBL.out hBr.out)
        have HBT : Hid (Below w.heap.size w wr) := Lib.hid (HB2.out.trans (hBr.out.mono HB2.out.size))
        clear h hcg hO
        go_wp2_with (first
          | (refine store_ev rfl 30 _ _ rfl rfl w.heap.size #[.int .u64 x1, .int .u64 x2, .int .u64 x3, .int .u64 x4, .int .u64 x5, .int .u64 x6] rfl rfl 30 _ HBLT.out (by kernel_rfl) (by kernel_rfl) (by kernel_rfl) ?_; intro w9 hb9 hp9; have HB9 := Lib.hid hb9; have HP9 := Lib.hid hp9; clear hb9 hp9))
        refine bodyPost_ret (results_ct rfl _ _ w.heap.size 30 #[.int .u64 x1, .int .u64 x2, .int .u64 x3, .int .u64 x4, .int .u64 x5, .int .u64 x6] (0, 0) _ rfl HB9.out hu rfl (by kernel_rfl)) rfl ?_
        obtain ⟨rfl, rfl, rfl, rfl, rfl, rfl, rfl⟩ := hz.out
        exact ⟨rfl, HP9.out.below HBT.out (Nat.le_refl _)⟩

/-! ### le_fits: function 62 -/
def le_fits.f (l0 : List Int) (a1 : Int) (a2 : Int) : Option (Bool) := if a2 = 1 then (if a1 ≥ 0 then (if a1 ≤ (l0.length : Int) then (some (decide ((wrap64 ((l0.length : Int) - a1)) ≥ a2))) else (some false)) else (some false)) else (if a2 = 2 then (if a1 ≥ 0 then (if a1 ≤ (l0.length : Int) then (some (decide ((wrap64 ((l0.length : Int) - a1)) ≥ a2))) else (some false)) else (some false)) else (if a2 = 4 then (if a1 ≥ 0 then (if a1 ≤ (l0.length : Int) then (some (decide ((wrap64 ((l0.length : Int) - a1)) ≥ a2))) else (some false)) else (some false)) else (if a2 = 8 then (if a1 ≥ 0 then (if a1 ≤ (l0.length : Int) then (some (decide ((wrap64 ((l0.length : Int) - a1)) ≥ a2))) else (some false)) else (some false)) else (some false))))
set_option maxHeartbeats 8000000 in
set_option maxRecDepth 100000 in
theorem le_fits.calls (A0 : Option Addr) (c0 : Nat) (l0 : List Int) (a1 : Int) (a2 : Int) (r : Bool) (w : World) (hr0 : Kd.C (Kd.int .u8) w A0 l0.length l0) (hc0 : l0.length ≤ c0) (h : le_fits.f l0 a1 a2 = some r) :
    Calls Tryd.prog 62 #[.slice A0 l0.length c0, .int .i64 a1, .int .i64 a2] w fun e w' => e = .returned (.bool r) ∧ Drawn0 w w' := by
  have HR0 := Aside0.mk hr0
  have HC0 := Aside0.mk hc0
  clear hr0 hc0
  have H : (if a2 = 1 then (if a1 ≥ 0 then (if a1 ≤ (l0.length : Int) then (some (decide ((wrap64 ((l0.length : Int) - a1)) ≥ a2))) else (some false)) else (some false)) else (if a2 = 2 then (if a1 ≥ 0 then (if a1 ≤ (l0.length : Int) then (some (decide ((wrap64 ((l0.length : Int) - a1)) ≥ a2))) else (some false)) else (some false)) else (if a2 = 4 then (if a1 ≥ 0 then (if a1 ≤ (l0.length : Int) then (some (decide ((wrap64 ((l0.length : Int) - a1)) ≥ a2))) else (some false)) else (some false)) else (if a2 = 8 then (if a1 ≥ 0 then (if a1 ≤ (l0.length : Int) then (some (decide ((wrap64 ((l0.length : Int) - a1)) ≥ a2))) else (some false)) else (some false)) else (some false))))) = some r := h
  clear h
  by_cases c4 : a2 = 1
  · rw [if_pos c4] at H
    have c4b0 : (a2 == 1) = true := beq_iff_eq.mpr c4
    have c4b1 : (a2 != 1) = false := bne_eq_false_iff_eq.mpr c4
    clear c4
    by_cases c5 : a1 ≥ 0
    · rw [if_pos c5] at H
      have c5b0 : decide (0 ≤ a1) = true := decide_eq_true c5
      clear c5
      by_cases c6 : a1 ≤ (l0.length : Int)
      · rw [if_pos c6] at H
        have c6b0 : decide (a1 ≤ (l0.length : Int)) = true := decide_eq_true c6
        clear c6
        obtain rfl := Option.some.inj H
        go_enter Tryd.func62, Tryd.ntmps62
        go_wp2
        go_ret
        exact ⟨by first | rfl | (simp; done) | (simp [*]; done) | exact isEmpty_bne _, by repeat (first | exact Drawn0.refl _ | apply Drawn0.step)⟩
      · rw [if_neg c6] at H
        have c6b0 : decide (a1 ≤ (l0.length : Int)) = false := decide_eq_false c6
        clear c6
        obtain rfl := Option.some.inj H
        go_enter Tryd.func62, Tryd.ntmps62
        go_wp2
        go_ret
        exact ⟨by first | rfl | (simp; done) | (simp [*]; done) | exact isEmpty_bne _, by repeat (first | exact Drawn0.refl _ | apply Drawn0.step)⟩
    · rw [if_neg c5] at H
      have c5b0 : decide (0 ≤ a1) = false := decide_eq_false c5
      clear c5
      obtain rfl := Option.some.inj H
      go_enter Tryd.func62, Tryd.ntmps62
      go_wp2
      go_ret
      exact ⟨by first | rfl | (simp; done) | (simp [*]; done) | exact isEmpty_bne _, by repeat (first | exact Drawn0.refl _ | apply Drawn0.step)⟩
  · rw [if_neg c4] at H
    have c4b0 : (a2 == 1) = false := beq_eq_false_iff_ne.mpr c4
    have c4b1 : (a2 != 1) = true := bne_iff_ne.mpr c4
    by_cases c7 : a2 = 2
    · rw [if_pos c7] at H
      have c7b0 : (a2 == 2) = true := beq_iff_eq.mpr c7
      have c7b1 : (a2 != 2) = false := bne_eq_false_iff_eq.mpr c7
      clear c7
      by_cases c8 : a1 ≥ 0
      · rw [if_pos c8] at H
        have c8b0 : decide (0 ≤ a1) = true := decide_eq_true c8
        clear c8
        by_cases c9 : a1 ≤ (l0.length : Int)
        · rw [if_pos c9] at H
          have c9b0 : decide (a1 ≤ (l0.length : Int)) = true := decide_eq_true c9
          clear c9
          obtain rfl := Option.some.inj H
          go_enter Tryd.func62, Tryd.ntmps62
          go_wp2
          go_ret
          exact ⟨by first | rfl | (simp; done) | (simp [*]; done) | exact isEmpty_bne _, by repeat (first | exact Drawn0.refl _ | apply Drawn0.step)⟩
        · rw [if_neg c9] at H
          have c9b0 : decide (a1 ≤ (l0.length : Int)) = false := decide_eq_false c9
          clear c9
          obtain rfl := Option.some.inj H
          go_enter Tryd.func62, Tryd.ntmps62
          go_wp2
          go_ret
          exact ⟨by first | rfl | (simp; done) | (simp [*]; done) | exact isEmpty_bne _, by repeat (first | exact Drawn0.refl _ | apply Drawn0.step)⟩
      · rw [if_neg c8] at H
        have c8b0 : decide (0 ≤ a1) = false := decide_eq_false c8
        clear c8
        obtain rfl := Option.some.inj H
        go_enter Tryd.func62, Tryd.ntmps62
        go_wp2
        go_ret
        exact ⟨by first | rfl | (simp; done) | (simp [*]; done) | exact isEmpty_bne _, by repeat (first | exact Drawn0.refl _ | apply Drawn0.step)⟩
    · rw [if_neg c7] at H
      have c7b0 : (a2 == 2) = false := beq_eq_false_iff_ne.mpr c7
      have c7b1 : (a2 != 2) = true := bne_iff_ne.mpr c7
      by_cases c10 : a2 = 4
      · rw [if_pos c10] at H
        have c10b0 : (a2 == 4) = true := beq_iff_eq.mpr c10
        have c10b1 : (a2 != 4) = false := bne_eq_false_iff_eq.mpr c10
        clear c10
        by_cases c11 : a1 ≥ 0
        · rw [if_pos c11] at H
          have c11b0 : decide (0 ≤ a1) = true := decide_eq_true c11
          clear c11
          by_cases c12 : a1 ≤ (l0.length : Int)
          · rw [if_pos c12] at H
            have c12b0 : decide (a1 ≤ (l0.length : Int)) = true := decide_eq_true c12
            clear c12
            obtain rfl := Option.some.inj H
            go_enter Tryd.func62, Tryd.ntmps62
            go_wp2
            go_ret
            exact ⟨by first | rfl | (simp; done) | (simp [*]; done) | exact isEmpty_bne _, by repeat (first | exact Drawn0.refl _ | apply Drawn0.step)⟩
          · rw [if_neg c12] at H
            have c12b0 : decide (a1 ≤ (l0.length : Int)) = false := decide_eq_false c12
            clear c12
            obtain rfl := Option.some.inj H
            go_enter Tryd.func62, Tryd.ntmps62
            go_wp2
            go_ret
            exact ⟨by first | rfl | (simp; done) | (simp [*]; done) | exact isEmpty_bne _, by repeat (first | exact Drawn0.refl _ | apply Drawn0.step)⟩
        · rw [if_neg c11] at H
          have c11b0 : decide (0 ≤ a1) = false := decide_eq_false c11
          clear c11
          obtain rfl := Option.some.inj H
          go_enter Tryd.func62, Tryd.ntmps62
          go_wp2
          go_ret
          exact ⟨by first | rfl | (simp; done) | (simp [*]; done) | exact isEmpty_bne _, by repeat (first | exact Drawn0.refl _ | apply Drawn0.step)⟩
      · rw [if_neg c10] at H
        have c10b0 : (a2 == 4) = false := beq_eq_false_iff_ne.mpr c10
        have c10b1 : (a2 != 4) = true := bne_iff_ne.mpr c10
        by_cases c13 : a2 = 8
        · rw [if_pos c13] at H
          have c13b0 : (a2 == 8) = true := beq_iff_eq.mpr c13
          have c13b1 : (a2 != 8) = false := bne_eq_false_iff_eq.mpr c13
          clear c13
          by_cases c14 : a1 ≥ 0
          · rw [if_pos c14] at H
            have c14b0 : decide (0 ≤ a1) = true := decide_eq_true c14
            clear c14
            by_cases c15 : a1 ≤ (l0.length : Int)
            · rw [if_pos c15] at H
              have c15b0 : decide (a1 ≤ (l0.length : Int)) = true := decide_eq_true c15
              clear c15
              obtain rfl := Option.some.inj H
              go_enter Tryd.func62, Tryd.ntmps62
              go_wp2
              go_ret
              exact ⟨by first | rfl | (simp; done) | (simp [*]; done) | exact isEmpty_bne _, by repeat (first | exact Drawn0.refl _ | apply Drawn0.step)⟩
            · rw [if_neg c15] at H
              have c15b0 : decide (a1 ≤ (l0.length : Int)) = false := decide_eq_false c15
              clear c15
              obtain rfl := Option.some.inj H
              go_enter Tryd.func62, Tryd.ntmps62
              go_wp2
              go_ret
              exact ⟨by first | rfl | (simp; done) | (simp [*]; done) | exact isEmpty_bne _, by repeat (first | exact Drawn0.refl _ | apply Drawn0.step)⟩
          · rw [if_neg c14] at H
            have c14b0 : decide (0 ≤ a1) = false := decide_eq_false c14
            clear c14
            obtain rfl := Option.some.inj H
            go_enter Tryd.func62, Tryd.ntmps62
            go_wp2
            go_ret
            exact ⟨by first | rfl | (simp; done) | (simp [*]; done) | exact isEmpty_bne _, by repeat (first | exact Drawn0.refl _ | apply Drawn0.step)⟩
        · rw [if_neg c13] at H
          have c13b0 : (a2 == 8) = false := beq_eq_false_iff_ne.mpr c13
          have c13b1 : (a2 != 8) = true := bne_iff_ne.mpr c13
          obtain rfl := Option.some.inj H
          go_enter Tryd.func62, Tryd.ntmps62
          go_wp2
          go_ret
          exact ⟨by first | rfl | (simp; done) | (simp [*]; done) | exact isEmpty_bne _, by repeat (first | exact Drawn0.refl _ | apply Drawn0.step)⟩

/-! ### le_Get: function 51 -/
def le_Get.l0 : Nat → List Int → Int → Int → Int → Option (Int × Bool)
  | 0, _, _, _, _ => none
  | k + 1, x0, x1, x8, x9 => if x9 ≥ 0 then (if 0 ≤ (wrap64 (x1 + x9)) then (if (wrap64 (x1 + x9)) < (x0.length : Int) then (le_Get.l0 k x0 x1 (Go.bits .or .u64 (IntKind.u64.wrap (x8 * 256)) (IntKind.u64.wrap (rd x0 (wrap64 (x1 + x9))))) (wrap64 (x9 - 1))) else (none)) else (none)) else (some (x8, true))
def le_Get.f (k : Nat) (l0 : List Int) (a1 : Int) (a2 : Int) : Option (Int × Bool) := (le_fits.f l0 a1 a2).bind fun t201 => (if t201 = true then (le_Get.l0 k l0 a1 0 (wrap64 (a2 - 1))) else (some (0, false)))
theorem le_Get.mono_l : ∀ k, (∀ y0 y1 y2 y3, LeO (le_Get.l0 k y0 y1 y2 y3) (le_Get.l0 (k + 1) y0 y1 y2 y3))
  | 0 => fun _ _ _ _ r h => by simp [le_Get.l0] at h
  | k + 1 => by
    have ih0 := le_Get.mono_l k
    · intro y0 y1 y2 y3
      unfold le_Get.l0
      repeat' first
      | (with_reducible exact ih0 _ _ _ _)
      | (with_reducible exact LeO.refl _)
      | (with_reducible exact LeO.none _)
      | (with_reducible refine LeO.ite ?_ ?_)
      | (with_reducible refine LeO.bind ?_ (fun _ => ?_))
      | exact ih0 _ _ _ _
      | exact LeO.none _
      | refine LeO.ite ?_ ?_
      | refine LeO.bind ?_ (fun _ => ?_)
theorem le_Get.mono : ∀ a0 a1 a2 k, LeO (le_Get.f k a0 a1 a2) (le_Get.f (k + 1) a0 a1 a2) := by
  intro a0 a1 a2 k
  have ih0 := le_Get.mono_l k
  unfold le_Get.f
  repeat' first
      | (with_reducible exact ih0 _ _ _ _)
      | (with_reducible exact LeO.refl _)
      | (with_reducible exact LeO.none _)
      | (with_reducible refine LeO.ite ?_ ?_)
      | (with_reducible refine LeO.bind ?_ (fun _ => ?_))
      | exact ih0 _ _ _ _
      | exact LeO.none _
      | refine LeO.ite ?_ ?_
      | refine LeO.bind ?_ (fun _ => ?_)
set_option maxHeartbeats 8000000 in
set_option maxRecDepth 100000 in
theorem le_Get.calls (k : Nat) (A0 : Option Addr) (c0 : Nat) (l0 : List Int) (a1 : Int) (a2 : Int) (r1 : Int) (r2 : Bool) (w : World) (hr0 : Kd.C (Kd.int .u8) w A0 l0.length l0) (hc0 : l0.length ≤ c0) (h : le_Get.f k l0 a1 a2 = some (r1, r2)) :
    Calls Tryd.prog 51 #[.slice A0 l0.length c0, .int .i64 a1, .int .i64 a2] w fun e w' => e = .returned (.tuple #[.int .u64 r1, .bool r2]) ∧ Drawn0 w w' := by
  have HR0 := Aside0.mk hr0
  have HC0 := Aside0.mk hc0
  clear hr0 hc0
  have H : ((le_fits.f l0 a1 a2).bind fun t201 => (if t201 = true then (le_Get.l0 k l0 a1 0 (wrap64 (a2 - 1))) else (some (0, false)))) = some (r1, r2) := h
  clear h
  replace H := Option.bind_eq_some_iff.mp H
  obtain ⟨t201, A40, H⟩ := H
  replace H : (if t201 = true then (le_Get.l0 k l0 a1 0 (wrap64 (a2 - 1))) else (some (0, false))) = some (r1, r2) := H
  have A4 := Aside0.mk A40
  clear A40
  by_cases c5 : t201 = true
  · subst c5
    have H1 : (le_Get.l0 k l0 a1 0 (wrap64 (a2 - 1))) = some (r1, r2) := by rw [if_pos rfl] at H; exact H
    clear H
    have H := H1
    clear H1
    have H' := Aside0.mk H
    clear H
    go_enter Tryd.func51, Tryd.ntmps51
    go_wp2_with (first | ((with_reducible refine gate_callee (f := 62) rfl ?_); refine goesL_ (some 13) rfl rfl Tryd.func62 (by kernel_rfl) rfl #[.slice A0 l0.length c0, .int .i64 a1, .int .i64 a2] rfl (by (try simp only [List.map_toArray, List.map_cons, List.map_nil]); first | done | rfl | (simp only [List.length_drop, List.length_take]; rfl)) ?_; (with_reducible refine (le_fits.calls _ _ l0 a1 a2 true _ ?side1 ?side2 A4.out).mono ?_); (case side1 => repeat (first | exact HR0.out | (with_reducible refine Kd.C_alloc ?_ _) | (with_reducible refine Kd.C_drewN ?_ _) | (with_reducible refine Kd.C_drew ?_))); (case side2 => exact HC0.out); rintro e w' ⟨rfl, ⟨nd, rfl⟩⟩; refine ⟨_, rfl, ?_⟩))
    go_loopg [8, 9] k (fun kq v8 v9 w' => ∃ (x8_1 : Int) (x9_1 : Int), v8 = .int .u64 x8_1 ∧ v9 = .int .i64 x9_1 ∧ Aside0 (le_Get.l0 kq l0 a1 x8_1 x9_1 = some (r1, r2)) ∧ Aside0 (kq ≤ k) ∧ Drawn0 w w')
    case atStart => exact ⟨(0), (wrap64 (a2 - 1)), (by first | rfl | (simp; done) | (simp [*]; done) | exact isEmpty_bne _), (by first | rfl | (simp; done) | (simp [*]; done) | exact isEmpty_bne _), H', ⟨Nat.le_refl _⟩, by repeat (first | exact Drawn0.refl _ | apply Drawn0.step)⟩
    case round =>
      clear H'
      try clear p2
      try clear c5
      obtain ⟨x8_1, x9_1, rfl, rfl, HA, HK1, ⟨m1, rfl⟩⟩ := hrel
      cases gk with
      | zero => exact absurd HA.out (by simp [le_Get.l0])
      | succ k1 =>
        have H := HA.out
        clear HA
        simp only [le_Get.l0] at H
        by_cases c6 : x9_1 ≥ 0
        · rw [if_pos c6] at H
          have c6b0 : decide (0 ≤ x9_1) = true := decide_eq_true c6
          clear c6
          obtain ⟨ji7, hji7⟩ : ∃ j_ : Int, (wrap64 (a1 + x9_1)) = j_ := ⟨_, rfl⟩
          replace H : (if 0 ≤ (ji7) then (if (ji7) < (l0.length : Int) then (le_Get.l0 k1 l0 a1 (Go.bits .or .u64 (IntKind.u64.wrap (x8_1 * 256)) (IntKind.u64.wrap (rd l0 (ji7)))) (wrap64 (x9_1 - 1))) else (none)) else (none)) = some (r1, r2) := by first | (rw [hji7] at H; exact H) | (simp only [hji7] at H ⊢; exact H)
          have hji7w : (IntKind.i64.wrap (a1 + x9_1)) = ji7 := (i64_w _).trans hji7
          by_cases c8 : 0 ≤ (ji7)
          · rw [if_pos c8] at H
            have c8b0 : decide (0 ≤ (ji7)) = true := decide_eq_true c8
            clear c8
            by_cases c9 : (ji7) < (l0.length : Int)
            · rw [if_pos c9] at H
              have c9b0 : decide ((ji7) < (l0.length : Int)) = true := decide_eq_true c9
              clear c9
              have H' := Aside0.mk H
              clear H
              have p202 : 0 ≤ ((ji7) : Int) := of_decide_eq_true (by first | (with_reducible assumption) | assumption)
              have q202 : (ji7) < (l0.length : Int) := of_decide_eq_true (by first | (with_reducible assumption) | assumption)
              obtain ⟨ad202, e202, hx202_0⟩ := Kd.at_int HR0.out (ji7) p202 q202
              cases e202
              replace p202 := eq_true p202
              replace q202 := eq_true q202
              go_wp2
              go_roundg k1
              case measure => have := HK1.out; omega
              case rel => exact ⟨(Go.bits .or .u64 (IntKind.u64.wrap (x8_1 * 256)) (IntKind.u64.wrap (rd l0 (ji7)))), (wrap64 (x9_1 - 1)), (by first | rfl | (simp; done) | (simp only [← hji7] <;> (first | rfl | simp)) | (simp [*]; done)), (by first | rfl | (simp; done) | (simp [*]; done) | exact isEmpty_bne _), H', ⟨by have := HK1.out; omega⟩, by repeat (first | exact Drawn0.refl _ | apply Drawn0.step)⟩
            · rw [if_neg c9] at H
              exact absurd H (by simp)
          · rw [if_neg c8] at H
            exact absurd H (by simp)
        · rw [if_neg c6] at H
          have c6b0 : decide (0 ≤ x9_1) = false := decide_eq_false c6
          clear c6
          simp only [Option.some.injEq, Prod.mk.injEq] at H
          obtain ⟨rfl, rfl⟩ := H
          go_wp2
          go_ret2
          exact ⟨by first | rfl | (simp; done) | (simp [*]; done) | exact isEmpty_bne _, by repeat (first | exact Drawn0.refl _ | apply Drawn0.step)⟩
  · replace c5 := Bool.eq_false_iff.mpr c5
    subst c5
    have H1 : (some (0, false)) = some (r1, r2) := by rw [if_neg (show ¬ (false = true) by decide)] at H; exact H
    clear H
    have H := H1
    clear H1
    simp only [Option.some.injEq, Prod.mk.injEq] at H
    obtain ⟨rfl, rfl⟩ := H
    go_enter Tryd.func51, Tryd.ntmps51
    go_wp2_with (first | ((with_reducible refine gate_callee (f := 62) rfl ?_); refine goesL_ (some 13) rfl rfl Tryd.func62 (by kernel_rfl) rfl #[.slice A0 l0.length c0, .int .i64 a1, .int .i64 a2] rfl (by (try simp only [List.map_toArray, List.map_cons, List.map_nil]); first | done | rfl | (simp only [List.length_drop, List.length_take]; rfl)) ?_; (with_reducible refine (le_fits.calls _ _ l0 a1 a2 false _ ?side1 ?side2 A4.out).mono ?_); (case side1 => repeat (first | exact HR0.out | (with_reducible refine Kd.C_alloc ?_ _) | (with_reducible refine Kd.C_drewN ?_ _) | (with_reducible refine Kd.C_drew ?_))); (case side2 => exact HC0.out); rintro e w' ⟨rfl, ⟨nd, rfl⟩⟩; refine ⟨_, rfl, ?_⟩))
    go_ret2
    exact ⟨by first | rfl | (simp; done) | (simp [*]; done) | exact isEmpty_bne _, by repeat (first | exact Drawn0.refl _ | apply Drawn0.step)⟩

end Go.Proofs.YtbbegchdlkmebaaDoor.PExportBack
