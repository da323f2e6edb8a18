-- LAID BY gprint.py: a scratch copy of the print, with functions that this session proved by hand among the printed ones
import Derived.Test.YtldoaommikclbaaPScanObjectsx0
import Derived.Test.YtldoaommikclbaaPScanObjectsx1
import Derived.Test.YtldoaommikclbaaPScanObjectsx2
namespace Go.Proofs.Ytldoaommikclbaa.PScanObjects
open Go.RowKit Go.Proofs.YtldoaommikclbaaW.PrintWords Go.Proofs.YtldoaommikclbaaW.PrintLast Go.Proofs.Ytldoaommikclbaa.Conv Go.Proofs.YtldoaommikclbaaW.PrintMore
attribute [local go_sem] max2_int min2_int max_two min_two max_three min_three max_four min_four gtr_less   -- for this text's walks alone
set_option linter.unusedVariables false
set_option linter.unusedSimpArgs false

-- GIVEN rounds=1 making=1 needs=(*logbook/le.Reader).Words,(*logbook/le.Reader).Raw,slices.IndexFunc[[]byte,byte],logbook/obj.frame,logbook/obj.Words,logbook/obj.Front,logbook/le.Align,logbook/obj.Right
/-! ### obj.Decode: by hand -/
set_option maxHeartbeats 1600000 in
theorem leRead_calls (A : Option Addr) (c : Nat) (l : List Int) (at_ : Int) (w : World) (h0 : 0 ≤ at_) (h1 : at_ ≤ (l.length : Int)) :
    Calls Try.prog 37 #[.slice A l.length c, .int .i64 at_] w fun e w' => ∃ g : Nat, e = .returned (.pointer (some ⟨g, 0, none⟩)) ∧ w.heap.size ≤ g ∧ Rdr w' g A l.length c at_ false ∧ Below w.heap.size w w' := by
  have c0 : decide (at_ < 0) = false := decide_eq_false (by omega)
  have c1 : decide ((l.length : Int) < at_) = false := decide_eq_false (by omega)
  clear h0 h1
  go_enter Try.func37, Try.ntmps37
  go_wp2_with (first | ((with_reducible refine gate_dst (N := 18) rfl ?_); refine box_event ?hg (N := 18) ?hd (cs := #[.slice A l.length c, .int .i64 at_, .bool false]) (t := 88) ?hr ?_; (case hd => rfl); (case hg => rfl); (case hr => first | (go_simp; done) | (go_simp; rfl)); intro g hg w4 hbox hb; have HG := Lib.hid hg; have HBX := Lib.hid hbox; have HB := Lib.hid hb; clear hg hbox hb))
  go_ret
  exact ⟨_, rfl, Nat.le_of_eq HG.out.symm, ⟨HBX.out⟩, HB.out⟩
def decRest (k : Nat) (l : List Int) (p : Int) (b : Bool) (kind rest : Int) : Option (List Int × List Int) :=
  if kind = 1 ∨ kind = 2 then (le_Reader_Raw.f l p b rest).bind fun z => some (z.1, []) else (le_Reader_Words.f k l p b (wrap64 (Int.tdiv rest 8))).bind fun z => some ([], z.1)
def decEnd (l : List Int) (a kind : Int) (ws raw items : List Int) (size rest end_ : Int) (ok : Bool) : Option (Int × List Int × List Int × List Int × Int × Bool) :=
  if ok = false then some (0, [], [], [], 0, false) else if ¬ (kind = 1 ∨ kind = 2) ∧ Int.tmod rest 8 ≠ 0 then some (0, [], [], [], 0, false)
  else if 0 ≤ wrap64 (a + size) ∧ wrap64 (a + size) ≤ end_ ∧ end_ ≤ (l.length : Int) then (if 0 ≤ nzAt ((l.take end_.toNat).drop (wrap64 (a + size)).toNat) 0 then some (0, [], [], [], 0, false) else some (kind, ws, raw, items, end_, true)) else none
def obj_Decode.f (k : Nat) (l : List Int) (a : Int) : Option (Int × List Int × List Int × List Int × Int × Bool) :=
  (obj_frame.f k l a).bind fun t => if t.2.2 = true then (if 0 ≤ wrap64 (a + 16) ∧ wrap64 (a + 16) ≤ (l.length : Int) ∧ l.length ≤ 140737488355328 then (obj_Words.f k t.1).bind fun nw => (le_Reader_Words.f k l (wrap64 (a + 16)) false nw).bind fun x => (obj_Front.f k t.1).bind fun fr =>
    (decRest k l x.2.1 x.2.2 t.1 (wrap64 (t.2.1 - fr))).bind fun y => (le_Align.f t.2.1).bind fun al => (obj_Right.f k t.1 x.1 y.1 y.2).bind fun ok =>
    decEnd l a t.1 x.1 y.1 y.2 t.2.1 (wrap64 (t.2.1 - fr)) (wrap64 (a + al)) ok else none) else some (0, [], [], [], 0, false)
theorem decRest_mono (l : List Int) (p : Int) (b : Bool) (kind rest : Int) (k : Nat) : LeO (decRest k l p b kind rest) (decRest (k + 1) l p b kind rest) := by
  unfold decRest
  by_cases c : kind = 1 ∨ kind = 2
  · rw [if_pos c, if_pos c]
    exact LeO.refl _
  · rw [if_neg c, if_neg c]
    exact LeO.bind (le_Reader_Words.mono _ _ _ _ _) (fun z => LeO.refl _)
theorem obj_Decode.mono : ∀ l a k, LeO (obj_Decode.f k l a) (obj_Decode.f (k + 1) l a) := by
  intro l a k
  unfold obj_Decode.f
  refine LeO.bind (obj_frame.mono _ _ _) (fun t => ?_)
  by_cases c : t.2.2 = true
  · rw [if_pos c, if_pos c]
    by_cases c2 : 0 ≤ wrap64 (a + 16) ∧ wrap64 (a + 16) ≤ (l.length : Int) ∧ l.length ≤ 140737488355328
    · rw [if_pos c2, if_pos c2]
      exact LeO.bind (obj_Words.mono _ _) (fun nw => LeO.bind (le_Reader_Words.mono _ _ _ _ _) (fun x => LeO.bind (obj_Front.mono _ _) (fun fr => LeO.bind (decRest_mono _ _ _ _ _ _) (fun y => LeO.bind (LeO.refl _) (fun al => LeO.bind (obj_Right.mono _ _ _ _ _) (fun ok => LeO.refl _))))))
    · rw [if_neg c2, if_neg c2]
      exact LeO.refl _
  · rw [if_neg c, if_neg c]
    exact LeO.refl _
theorem ite_some {p : Prop} [Decidable p] {α : Type} {F T R : α} (h : (if p then some F else some T) = some R) : (if decide p = true then F else T) = R := by
  by_cases hp : p <;> simp [hp] at h ⊢ <;> exact h
theorem obj_put4 {w : World} {g : Nat} {a b c d : Value} (h : w.heap[g]? = some (.cells #[a, b, c, d] 42 (0, 0))) (x0 x1 x2 x3 : Value) :
    ((((w.setCell ⟨g, 0, none⟩ x0).setCell ⟨g, 1, none⟩ x1).setCell ⟨g, 2, none⟩ x2).setCell ⟨g, 3, none⟩ x3).heap[g]? = some (.cells #[x0, x1, x2, x3] 42 (0, 0)) :=
  blk_put (blk_put (blk_put (blk_put h 0 _ rfl) 1 _ rfl) 2 _ rfl) 3 _ rfl
theorem put4 (w : World) (g : Nat) (x0 x1 x2 x3 : Value) : Put g w ((((w.setCell ⟨g, 0, none⟩ x0).setCell ⟨g, 1, none⟩ x1).setCell ⟨g, 2, none⟩ x2).setCell ⟨g, 3, none⟩ x3) :=
  (((put_setCell w ⟨g, 0, none⟩ x0).trans (put_setCell _ ⟨g, 1, none⟩ x1)).trans (put_setCell _ ⟨g, 2, none⟩ x2)).trans (put_setCell _ ⟨g, 3, none⟩ x3)
set_option maxHeartbeats 6400000 in
set_option maxRecDepth 100000 in
theorem obj_Decode.calls (k : Nat) (A : Option Addr) (c : Nat) (l : List Int) (a1 : Int) (r1 : Int) (r2 r3 r4 : List Int) (r5 : Int) (r6 : Bool) (w : World) (hr : Kd.C (Kd.int .u8) w A l.length l) (hc : l.length ≤ c) (h : obj_Decode.f k l a1 = some (r1, r2, r3, r4, r5, r6)) :
    Calls Try.prog 23 #[.slice A l.length c, .int .i64 a1] w fun e w' => ∃ v1_ v2_ v3_ : Value, e = .returned (.tuple #[.agg #[.int .i64 r1, v1_, v2_, v3_], .int .i64 r5, .bool r6]) ∧ Kd.R (Kd.int .u64) 47 w' w.heap.size (fun k_ => some k_ ≠ (v3_ : Value).ownBlock) v1_ r2 ∧ Kd.R (Kd.int .u8) 5 w' w.heap.size (fun _ => True) v2_ r3 ∧ Kd.R (Kd.int .u64) 47 w' w.heap.size (fun k_ => some k_ ≠ (v1_ : Value).ownBlock) v3_ r4 ∧ Below w.heap.size w w' := by
  have HR := Lib.hid hr
  have HC := Lib.hid hc
  clear hr hc
  have HB := Lib.hid (Below.refl w.heap.size w)
  unfold obj_Decode.f at h
  obtain ⟨⟨kind, size, fok⟩, hf, hh⟩ := Option.bind_eq_some_iff.1 h
  clear h
  have h := hh
  clear hh
  dsimp only at h
  have HF := Lib.hid hf
  clear hf
  cases fok with
  | false =>
    rw [if_neg (by decide)] at h
    simp only [Option.some.injEq, Prod.mk.injEq] at h
    obtain ⟨rfl, rfl, rfl, rfl, rfl, rfl⟩ := h
    go_enter Try.func23, Try.ntmps23
    go_wp2_with (first
      | ((with_reducible refine gate_dst (N := 4) rfl ?_); refine box_event ?hg (N := 4) ?hd (cs := #[.int .i64 0, .slice none 0 0, .slice none 0 0, .slice none 0 0]) (t := 42) ?hr ?_; (case hd => rfl); (case hg => rfl); (case hr => first | (go_simp; done) | (go_simp; rfl)); intro g4 hg w4 hbox hb; have HG4 := Lib.hid hg; have BK4 := Lib.hid hbox; have HB4 := Lib.hid (HB.out.trans hb); clear hg hbox hb)
      | (go_at_call 36; (with_reducible refine (obj_frame.calls k A c l a1 kind size false _ (Kd.C_below HR.out HB4.out) HC.out HF.out).mono ?_); rintro e w' ⟨rfl, ⟨nd, rfl⟩⟩; have k0 := (blk_cell BK4.out 0); have k1 := (blk_cell BK4.out 1); have k2 := (blk_cell BK4.out 2); have k3 := (blk_cell BK4.out 3); have f0 := blk_frozen BK4.out 0; have f1 := blk_frozen BK4.out 1; have f2 := blk_frozen BK4.out 2; have f3 := blk_frozen BK4.out 3; simp at k0 k1 k2 k3))
    refine bodyPost_ret (results_ctt rfl _ _ g4 42 #[.int .i64 0, .slice none 0 0, .slice none 0 0, .slice none 0 0] (0, 0) _ rfl (obj_put4 (blk_drewN BK4.out _) _ _ _ _) Try.underlying42 rfl (by kernel_rfl)) rfl ?_
    exact ⟨_, _, _, rfl, Kd.R_nil _ _ _ _ _, Kd.R_nil _ _ _ _ _, Kd.R_nil _ _ _ _ _, (put4 _ g4 _ _ _ _).below (pw_below_drewN HB4.out _) (Nat.le_of_eq HG4.out.symm)⟩
  | true =>
    rw [if_pos rfl] at h
    by_cases hq : 0 ≤ wrap64 (a1 + 16) ∧ wrap64 (a1 + 16) ≤ (l.length : Int) ∧ l.length ≤ 140737488355328
    case neg => rw [if_neg hq] at h; cases h
    rw [if_pos hq] at h
    obtain ⟨nw, hnw, hh⟩ := Option.bind_eq_some_iff.1 h
    clear h
    have h := hh
    clear hh
    obtain ⟨⟨ws, p, b⟩, hws, hh⟩ := Option.bind_eq_some_iff.1 h
    clear h
    have h := hh
    clear hh
    obtain ⟨fr, hfr, hh⟩ := Option.bind_eq_some_iff.1 h
    clear h
    have h := hh
    clear hh
    obtain ⟨⟨raw, items⟩, hy, hh⟩ := Option.bind_eq_some_iff.1 h
    clear h
    have h := hh
    clear hh
    obtain ⟨al, hal, hh⟩ := Option.bind_eq_some_iff.1 h
    clear h
    have h := hh
    clear hh
    obtain ⟨ok, hok, hh⟩ := Option.bind_eq_some_iff.1 h
    clear h
    have h := hh
    clear hh
    dsimp only at hy hok h
    have HNW := Lib.hid hnw
    have HWS := Lib.hid hws
    have HFR := Lib.hid hfr
    have HAL := Lib.hid hal
    have HOK := Lib.hid hok
    have HQ := Lib.hid hq
    generalize hrest : wrap64 (size - fr) = rest at hy h
    generalize hend : wrap64 (a1 + al) = end_ at h
    have HY := Lib.hid hy
    have H := Lib.hid h
    clear hnw hws hfr hal hok hq hy h
    go_enter Try.func23, Try.ntmps23
    go_upto_region 7 with (first
      | ((with_reducible refine gate_dst (N := 4) rfl ?_); refine box_event ?hg (N := 4) ?hd (cs := #[.int .i64 0, .slice none 0 0, .slice none 0 0, .slice none 0 0]) (t := 42) ?hr ?_; (case hd => rfl); (case hg => rfl); (case hr => first | (go_simp; done) | (go_simp; rfl)); intro g4 hg w4 hbox hb; have HG4 := Lib.hid hg; have BK4 := Lib.hid hbox; have HB4 := Lib.hid (HB.out.trans hb); clear hg hbox hb)
      | (go_at_call 36; (with_reducible refine (obj_frame.calls k A c l a1 kind size true _ (Kd.C_below HR.out HB4.out) HC.out HF.out).mono ?_); rintro e w' ⟨rfl, ⟨nd, rfl⟩⟩)
      | (go_at_call 37; (with_reducible refine (leRead_calls A c l (wrap64 (a1 + 16)) _ HQ.out.1 HQ.out.2.1).mono ?_); rintro e w2 ⟨gr, rfl, hgr, hi, hb⟩; have HGR := Lib.hid (Nat.le_trans (pw_below_drewN HB4.out nd).size hgr); have HI := Lib.hid hi; have BK4b := Lib.hid (blk_below (blk_drewN BK4.out nd) hb); have NE := Lib.hid (show g4 ≠ gr from Nat.ne_of_lt (Nat.lt_of_lt_of_le (blk_lt (blk_drewN BK4.out nd)) hgr)); have HB5 := Lib.hid ((pw_below_drewN HB4.out nd).trans (hb.mono (pw_below_drewN HB4.out nd).size)); clear hgr hi hb)
      | (go_at_call 39; (with_reducible refine (obj_Words.calls k kind nw _ HNW.out).mono ?_); rintro e w' ⟨rfl, ⟨nd2, rfl⟩⟩)
      | (go_at_call 38; (with_reducible refine (le_Reader_Words.calls k gr A c l (wrap64 (a1 + 16)) false nw ws p b _ (HI.out.drewN _) (Kd.C_below HR.out (pw_below_drewN HB5.out _)) HC.out HWS.out).mono ?_); rintro e w3 ⟨v1, rfl, ho, hi2, hbg, hk⟩; obtain ⟨Av, cv, rfl⟩ := Kd.R_slice ho; have HO1 := Lib.hid (Kd.R_lower ho HB5.out.size); have HI2 := Lib.hid hi2; have BK4c := Lib.hid (hk.blk BK4b.out NE.out (by simp)); have HB6 := Lib.hid ((pw_below_drewN HB5.out nd2).trans (hbg.mono HGR.out)); clear ho hi2 hbg hk)
      | ((with_reducible refine gate_dst (N := 11) rfl ?_); refine box_event ?hg (N := 11) ?hd (cs := #[.int .i64 0, .slice none 0 0, .slice none 0 0, .slice none 0 0]) (t := 42) ?hr ?_; (case hd => rfl); (case hg => rfl); (case hr => first | (go_simp; done) | (go_simp; rfl)); intro g11 hg w5 hbox hb; have HG11 := Lib.hid (show w.heap.size ≤ g11 by rw [hg]; exact HB6.out.size); have BK11 := Lib.hid hbox; have NE2 := Lib.hid (show g4 ≠ g11 by rw [hg]; exact Nat.ne_of_lt (blk_lt BK4c.out)); have NE3 := Lib.hid (show gr ≠ g11 by rw [hg]; exact Nat.ne_of_lt (blk_lt HI2.out.blk)); have BK4d := Lib.hid (blk_below BK4c.out hb); have HO1b := Lib.hid (Kd.R_below HO1.out hb); have HI3 := Lib.hid (HI2.out.below hb); have HB7 := Lib.hid (HB6.out.trans (hb.mono HB6.out.size)); have k0 := (blk_cell hbox 0); have k1 := (blk_cell hbox 1); have k2 := (blk_cell hbox 2); have k3 := (blk_cell hbox 3); have f0 := blk_frozen hbox 0; have f1 := blk_frozen hbox 1; have f2 := blk_frozen hbox 2; have f3 := blk_frozen hbox 3; simp at k0 k1 k2 k3; clear hg hbox hb)
      | (go_at_call 27; (with_reducible refine (obj_Front.calls k kind fr _ HFR.out).mono ?_); rintro e w' ⟨rfl, ⟨nd3, rfl⟩⟩))
    rw [hrest]
    have PT := put4 w5 g11 (.int .i64 kind) (.slice Av ws.length cv) (.slice none 0 0) (.slice none 0 0)
    have BK11b := blk_drewN (obj_put4 BK11.out (.int .i64 kind) (.slice Av ws.length cv) (.slice none 0 0) (.slice none 0 0)) nd3
    have BK4e := blk_drewN (PT.blk BK4d.out NE2.out) nd3
    have HI4 := blk_drewN (PT.blk HI3.out.blk NE3.out) nd3
    have HO1c := Kd.R_drewN (PT.R HO1b.out BK11.out (by decide)) nd3
    have HB8 := pw_below_drewN (PT.below HB7.out HG11.out) nd3
    generalize ((((w5.setCell ⟨g11, 0, none⟩ (.int .i64 kind)).setCell ⟨g11, 1, none⟩ (.slice Av ws.length cv)).setCell ⟨g11, 2, none⟩ (.slice none 0 0)).setCell ⟨g11, 3, none⟩ (.slice none 0 0)).drewN nd3 = w6 at BK11b BK4e HI4 HO1c HB8 ⊢
    have BL := Lib.hid BK11b
    have BF := Lib.hid BK4e
    have HRD := Lib.hid (Rdr.mk HI4)
    have HO1 := Lib.hid HO1c
    have HBB := Lib.hid HB8
    clear PT BK11b BK4e HI4 HO1c HB8 k0 k1 k2 k3 f0 f1 f2 f3 HI HI2 HI3 BK4 BK4b BK4c BK4d BK11 HO1b HB4 HB5 HB6 HB7
    obtain ⟨br, hbr⟩ : ∃ br, br = decide (kind = 1 ∨ kind = 2) := ⟨_, rfl⟩
    have HBR := Lib.hid hbr
    clear hbr
    go_cut [43] (fun v43 wc => v43 = .bool br ∧ wc = w6)
    case first =>
      clear hrest hend
      by_cases e1 : kind = 1
      · have E1 := Lib.hid e1
        have b1 : (kind == 1) = true := beq_iff_eq.2 e1
        clear e1
        go_wp2
        go_meet
        case rel => exact ⟨by rw [HBR.out, E1.out]; rfl, rfl⟩
      · have E1 := Lib.hid e1
        have b1 : (kind == 1) = false := beq_eq_false_iff_ne.2 e1
        clear e1
        go_wp2
        go_meet
        case rel => exact ⟨by rw [HBR.out]; have := E1.out; by_cases e : kind = 2 <;> simp [this, e], rfl⟩
    case rest =>
      obtain ⟨rfl, hwc⟩ := hcut
      subst hwc
      go_upto_if 43 with (fail)
      go_cut [] (fun wx => ∃ (Ar Ai : Option Addr) (cr ci : Nat), Hid (wx.heap[g4]? = some (.cells #[.int .i64 0, .slice none 0 0, .slice none 0 0, .slice none 0 0] 42 (0, 0))) ∧ Hid (wx.heap[g11]? = some (.cells #[.int .i64 kind, .slice Av ws.length cv, .slice Ar raw.length cr, .slice Ai items.length ci] 42 (0, 0))) ∧ Hid (Kd.R (Kd.int .u64) 47 wx w.heap.size (fun k_ => some k_ ≠ (Value.slice Ai items.length ci).ownBlock) (.slice Av ws.length cv) ws ∧ Kd.R (Kd.int .u8) 5 wx w.heap.size (fun _ => True) (.slice Ar raw.length cr) raw ∧ Kd.R (Kd.int .u64) 47 wx w.heap.size (fun k_ => some k_ ≠ (Value.slice Av ws.length cv).ownBlock) (.slice Ai items.length ci) items) ∧ Hid (Below w.heap.size w wx))
      case first =>
        have hy := HY.out
        clear HY
        unfold decRest at hy
        by_cases kk : kind = 1 ∨ kind = 2
        · rw [if_pos kk] at hy
          obtain ⟨⟨raw', p2, b2⟩, hraw, hh⟩ := Option.bind_eq_some_iff.1 hy
          simp only [Option.some.injEq, Prod.mk.injEq] at hh
          obtain ⟨rfl, rfl⟩ := hh
          have HRAW := Lib.hid hraw
          obtain rfl : br = true := by rw [HBR.out]; exact decide_eq_true kk
          clear hy hraw kk hrest hend
          go_wp2_with (first
            | (go_at_call 40; (with_reducible refine (le_Reader_Raw.calls gr A c l p b rest raw' p2 b2 _ HRD.out (Kd.C_below HR.out HBB.out) HC.out HRAW.out).mono ?_); rintro e w7 ⟨v2, rfl, ho2, hi2, hb2, hk2⟩; obtain ⟨A2, c2, rfl⟩ := Kd.R_slice ho2; have BL2 := Lib.hid (hk2.blk BL.out NE3.out.symm (by simp)); have BF2 := Lib.hid (hk2.blk BF.out NE.out (by simp)); have HV1 := Lib.hid (Kd.R_keep (Kd.R_types HO1.out HRD.out.blk (by decide)) hk2 (fun k hk => hk.2)); have HV2 := Lib.hid (Kd.R_lower ho2 HBB.out.size); have HB2 := Lib.hid (HBB.out.trans (hb2.mono HGR.out)); have k2 := blk_cell BL2.out 2; have f2 := blk_frozen BL2.out 2; simp at k2; clear ho2 hi2 hb2 hk2))
          go_meet
          case rel => exact ⟨A2, none, c2, 0, Lib.hid (blk_far BF2.out NE2.out _), Lib.hid (blk_put BL2.out 2 _ rfl), Lib.hid ⟨Kd.R_mono ((put_setCell _ ⟨g11, 2, none⟩ _).R HV1.out BL2.out (by decide)) (fun k _ => by simp [Value.ownBlock]), (put_setCell _ ⟨g11, 2, none⟩ _).R HV2.out BL2.out (by decide), Kd.R_nil _ _ _ _ _⟩, Lib.hid ((put_setCell _ ⟨g11, 2, none⟩ _).below HB2.out HG11.out)⟩
        · rw [if_neg kk] at hy
          obtain ⟨⟨its, p2, b2⟩, hits, hh⟩ := Option.bind_eq_some_iff.1 hy
          simp only [Option.some.injEq, Prod.mk.injEq] at hh
          obtain ⟨rfl, rfl⟩ := hh
          have HITS := Lib.hid hits
          obtain rfl : br = false := by rw [HBR.out]; exact decide_eq_false kk
          clear hy hits kk hrest hend
          go_wp2_with (first
            | (go_at_call 38; (with_reducible refine (le_Reader_Words.calls k gr A c l p b (wrap64 (Int.tdiv rest 8)) its p2 b2 _ HRD.out (Kd.C_below HR.out HBB.out) HC.out HITS.out).mono ?_); rintro e w7 ⟨v3, rfl, ho2, hi2, hb2, hk2⟩; obtain ⟨A2, c2, rfl⟩ := Kd.R_slice ho2; have BL2 := Lib.hid (hk2.blk BL.out NE3.out.symm (by simp)); have BF2 := Lib.hid (hk2.blk BF.out NE.out (by simp)); have HV1 := Lib.hid (show Kd.R (Kd.int .u64) 47 w7 w.heap.size (fun k_ => some k_ ≠ (Value.slice A2 its.length c2).ownBlock) (.slice Av ws.length cv) ws from Kd.R_mono (Kd.R_keep (Kd.R_bound (Kd.R_types HO1.out HRD.out.blk (by decide))) hk2 (fun k hk => hk.1.2)) (fun k hk he => by rcases Kd.R_base2 ho2 with h0 | ⟨q, h0, h1⟩; (rw [h0] at he; cases he); (rw [h0] at he; injection he with he; have := hk.2.2.1; omega))); have HV2 := Lib.hid (show Kd.R (Kd.int .u64) 47 w7 w.heap.size (fun k_ => some k_ ≠ (Value.slice Av ws.length cv).ownBlock) (.slice A2 its.length c2) its from Kd.R_mono (Kd.R_lower (Kd.R_mono (Kd.R_bound ho2) (fun k hk => show wc.heap.size ≤ k from hk.2.1)) HBB.out.size) (fun k hk he => by have := Kd.R_lt HO1.out k he.symm; omega)); have HB2 := Lib.hid (HBB.out.trans (hb2.mono HGR.out)); have k2 := blk_cell BL2.out 3; have f2 := blk_frozen BL2.out 3; simp at k2; clear ho2 hi2 hb2 hk2))
          go_meet
          case rel => exact ⟨none, A2, 0, c2, Lib.hid (blk_far BF2.out NE2.out _), Lib.hid (blk_put BL2.out 3 _ rfl), Lib.hid ⟨(put_setCell _ ⟨g11, 3, none⟩ _).R HV1.out BL2.out (by decide), Kd.R_nil _ _ _ _ _, (put_setCell _ ⟨g11, 3, none⟩ _).R HV2.out BL2.out (by decide)⟩, Lib.hid ((put_setCell _ ⟨g11, 3, none⟩ _).below HB2.out HG11.out)⟩
      case rest =>
        clear BF BL HRD HO1 HBB HY HBR
        obtain ⟨Ar, Ai, cr, ci, BF, BL, HRR, HBB⟩ := hcut
        go_upto_region 11 with (first
          | (go_at_call 32; (with_reducible refine (le_Align.calls size al _ HAL.out).mono ?_); rintro e w' ⟨rfl, ⟨nd4, rfl⟩⟩))
        rw [hend]
        have BF1 := blk_drewN BF.out nd4
        have BL1 := blk_drewN BL.out nd4
        have HRR1 := And.intro (Kd.R_drewN HRR.out.1 nd4) (And.intro (Kd.R_drewN HRR.out.2.1 nd4) (Kd.R_drewN HRR.out.2.2 nd4))
        have HB1 := pw_below_drewN HBB.out nd4
        clear BF BL HRR HBB
        generalize wc.drewN nd4 = w7 at BF1 BL1 HRR1 HB1 ⊢
        have BF := Lib.hid BF1
        have BL := Lib.hid BL1
        have HRR := Lib.hid HRR1
        have HBB := Lib.hid HB1
        clear BF1 BL1 HRR1 HB1
        go_cut [81] (fun v81 wy => ∃ bad : Bool, v81 = .bool bad ∧ Hid (wy.heap[g4]? = some (.cells #[.int .i64 0, .slice none 0 0, .slice none 0 0, .slice none 0 0] 42 (0, 0))) ∧ Hid (wy.heap[g11]? = some (.cells #[.int .i64 kind, .slice Av ws.length cv, .slice Ar raw.length cr, .slice Ai items.length ci] 42 (0, 0))) ∧ Hid (Kd.R (Kd.int .u64) 47 wy w.heap.size (fun k_ => some k_ ≠ (Value.slice Ai items.length ci).ownBlock) (.slice Av ws.length cv) ws ∧ Kd.R (Kd.int .u8) 5 wy w.heap.size (fun _ => True) (.slice Ar raw.length cr) raw ∧ Kd.R (Kd.int .u64) 47 wy w.heap.size (fun k_ => some k_ ≠ (Value.slice Av ws.length cv).ownBlock) (.slice Ai items.length ci) items) ∧ Hid (Below w.heap.size w wy) ∧ Hid ((if bad = true then (0, [], [], [], 0, false) else (kind, ws, raw, items, end_, true)) = (r1, r2, r3, r4, r5, r6)))
        case first =>
          have h := H.out
          clear H hrest hend
          unfold decEnd at h
          have j0 := blk_cell BL.out 0
          have j1 := blk_cell BL.out 1
          have j2 := blk_cell BL.out 2
          have j3 := blk_cell BL.out 3
          simp at j0 j1 j2 j3
          cases ok with
          | false =>
            rw [if_pos rfl] at h
            have HH := Lib.hid (Option.some.inj h)
            clear h
            go_wp2_with (first
              | (go_at_call 25; (with_reducible refine (obj_Right.calls k kind Av cv ws Ar cr raw Ai ci items false _ (Kd.R_reads' HRR.out.1).2.2 (Kd.R_reads' HRR.out.1).2.1 (Kd.R_reads' HRR.out.2.1).2.2 (Kd.R_reads' HRR.out.2.1).2.1 (Kd.R_reads' HRR.out.2.2).2.2 (Kd.R_reads' HRR.out.2.2).2.1 HOK.out).mono ?_); rintro e w8 ⟨rfl, hb⟩; have BF2 := Lib.hid (blk_below BF.out hb); have BL2 := Lib.hid (blk_below BL.out hb); have HRR2 := Lib.hid (And.intro (Kd.R_below HRR.out.1 hb) (And.intro (Kd.R_below HRR.out.2.1 hb) (Kd.R_below HRR.out.2.2 hb))); have HB2 := Lib.hid (HBB.out.trans (hb.mono HBB.out.size)); clear hb))
            go_meet
            case rel => exact ⟨true, rfl, BF2, BL2, HRR2, HB2, Lib.hid (HH.out)⟩
          | true =>
            rw [if_neg (by decide)] at h
            by_cases kk : kind = 1 ∨ kind = 2
            case neg =>
              have kn1 : (kind != 1) = true := bne_iff_ne.2 (fun e => kk (Or.inl e))
              have kn2 : (kind != 2) = true := bne_iff_ne.2 (fun e => kk (Or.inr e))
              by_cases km : Int.tmod rest 8 = 0
              · have km1 : (Int.tmod rest 8 != 0) = false := bne_eq_false_iff_eq.2 km
                rw [if_neg (fun hh => hh.2 km)] at h
                clear km kk
                by_cases hq : 0 ≤ wrap64 (a1 + size) ∧ wrap64 (a1 + size) ≤ end_ ∧ end_ ≤ (l.length : Int)
                case neg => rw [if_neg hq] at h; cases h
                rw [if_pos hq] at h
                obtain ⟨q1, q2, q3⟩ := hq
                obtain ⟨lo, hlo⟩ : ∃ lo, wrap64 (a1 + size) = lo := ⟨_, rfl⟩
                rw [hlo] at q1 q2 h
                have hlo2 : IntKind.i64.wrap (a1 + size) = lo := (i64_w _).trans hlo
                have HH := Lib.hid (ite_some h)
                clear h
                obtain ⟨A2, hA2⟩ : ∃ A2, (if c = lo.toNat then A else Option.map (fun x => x.add lo.toNat) A) = A2 := ⟨_, rfl⟩
                have d1 : (0 ≤ end_) = True := eq_true (by omega)
                have d2 : (end_ ≤ (c : Int)) = True := eq_true (by have := HC.out; omega)
                have d3 : (0 ≤ lo) = True := eq_true q1
                have d4 : (lo ≤ max end_ 0) = True := eq_true (by omega)
                have hCM := Kd.C_mid (lo := lo.toNat) (hi := end_.toNat) HR.out (by omega) (by omega) HC.out
                have hCM2 : Kd.C (Kd.int .u8) w A2 ((l.take end_.toNat).drop lo.toNat).length ((l.take end_.toNat).drop lo.toNat) := by
                  rw [← hA2]
                  have z := hCM
                  rw [show lo.toNat * (Kd.int .u8).sz = lo.toNat from Nat.mul_one _] at z
                  exact z
                have hlen : ((l.take end_.toNat).drop lo.toNat).length = end_.toNat - lo.toNat := by
                  rw [List.length_drop, List.length_take]
                  omega
                have HCL : Hid (∀ W : World, Below w.heap.size w W → Calls Try.prog 41 #[.slice A2 (end_.toNat - lo.toNat) (c - lo.toNat), nzF] W fun e w' => e = .returned (.bool (decide (0 ≤ nzAt ((l.take end_.toNat).drop lo.toNat) 0))) ∧ w' = W) := Lib.hid (fun W hW => by
                  have z := containsFunc_calls A2 (c - lo.toNat) ((l.take end_.toNat).drop lo.toNat) W (Kd.C_below hCM2 hW) (by rw [hlen]; have := HQ.out.2.2; omega)
                  rw [hlen] at z
                  exact z)
                clear q1 q2 q3 hCM hCM2 hlen
                go_wp2_with (first
                  | (go_at_call 25; (with_reducible refine (obj_Right.calls k kind Av cv ws Ar cr raw Ai ci items true _ (Kd.R_reads' HRR.out.1).2.2 (Kd.R_reads' HRR.out.1).2.1 (Kd.R_reads' HRR.out.2.1).2.2 (Kd.R_reads' HRR.out.2.1).2.1 (Kd.R_reads' HRR.out.2.2).2.2 (Kd.R_reads' HRR.out.2.2).2.1 HOK.out).mono ?_); rintro e w8 ⟨rfl, hb⟩; have BF2 := Lib.hid (blk_below BF.out hb); have BL2 := Lib.hid (blk_below BL.out hb); have HRR2 := Lib.hid (And.intro (Kd.R_below HRR.out.1 hb) (And.intro (Kd.R_below HRR.out.2.1 hb) (Kd.R_below HRR.out.2.2 hb))); have HB2 := Lib.hid (HBB.out.trans (hb.mono HBB.out.size)); clear hb)
                  | (go_at_call 41; (with_reducible refine (HCL.out _ HB2.out).mono ?_); rintro e w9 ⟨rfl, rfl⟩))
                go_meet
                case rel => exact ⟨_, rfl, BF2, BL2, HRR2, HB2, Lib.hid (HH.out)⟩
              · have km1 : (Int.tmod rest 8 != 0) = true := bne_iff_ne.2 km
                rw [if_pos ⟨kk, km⟩] at h
                have HH := Lib.hid (Option.some.inj h)
                clear h km kk
                go_wp2_with (first
                  | (go_at_call 25; (with_reducible refine (obj_Right.calls k kind Av cv ws Ar cr raw Ai ci items true _ (Kd.R_reads' HRR.out.1).2.2 (Kd.R_reads' HRR.out.1).2.1 (Kd.R_reads' HRR.out.2.1).2.2 (Kd.R_reads' HRR.out.2.1).2.1 (Kd.R_reads' HRR.out.2.2).2.2 (Kd.R_reads' HRR.out.2.2).2.1 HOK.out).mono ?_); rintro e w8 ⟨rfl, hb⟩; have BF2 := Lib.hid (blk_below BF.out hb); have BL2 := Lib.hid (blk_below BL.out hb); have HRR2 := Lib.hid (And.intro (Kd.R_below HRR.out.1 hb) (And.intro (Kd.R_below HRR.out.2.1 hb) (Kd.R_below HRR.out.2.2 hb))); have HB2 := Lib.hid (HBB.out.trans (hb.mono HBB.out.size)); clear hb))
                go_meet
                case rel => exact ⟨true, rfl, BF2, BL2, HRR2, HB2, Lib.hid (HH.out)⟩
            case pos =>
              rw [if_neg (fun hh => hh.1 kk)] at h
              by_cases e1 : kind = 1
              · have kn1 : (kind != 1) = false := bne_eq_false_iff_eq.2 e1
                clear e1 kk
                by_cases hq : 0 ≤ wrap64 (a1 + size) ∧ wrap64 (a1 + size) ≤ end_ ∧ end_ ≤ (l.length : Int)
                case neg => rw [if_neg hq] at h; cases h
                rw [if_pos hq] at h
                obtain ⟨q1, q2, q3⟩ := hq
                obtain ⟨lo, hlo⟩ : ∃ lo, wrap64 (a1 + size) = lo := ⟨_, rfl⟩
                rw [hlo] at q1 q2 h
                have hlo2 : IntKind.i64.wrap (a1 + size) = lo := (i64_w _).trans hlo
                have HH := Lib.hid (ite_some h)
                clear h
                obtain ⟨A2, hA2⟩ : ∃ A2, (if c = lo.toNat then A else Option.map (fun x => x.add lo.toNat) A) = A2 := ⟨_, rfl⟩
                have d1 : (0 ≤ end_) = True := eq_true (by omega)
                have d2 : (end_ ≤ (c : Int)) = True := eq_true (by have := HC.out; omega)
                have d3 : (0 ≤ lo) = True := eq_true q1
                have d4 : (lo ≤ max end_ 0) = True := eq_true (by omega)
                have hCM := Kd.C_mid (lo := lo.toNat) (hi := end_.toNat) HR.out (by omega) (by omega) HC.out
                have hCM2 : Kd.C (Kd.int .u8) w A2 ((l.take end_.toNat).drop lo.toNat).length ((l.take end_.toNat).drop lo.toNat) := by
                  rw [← hA2]
                  have z := hCM
                  rw [show lo.toNat * (Kd.int .u8).sz = lo.toNat from Nat.mul_one _] at z
                  exact z
                have hlen : ((l.take end_.toNat).drop lo.toNat).length = end_.toNat - lo.toNat := by
                  rw [List.length_drop, List.length_take]
                  omega
                have HCL : Hid (∀ W : World, Below w.heap.size w W → Calls Try.prog 41 #[.slice A2 (end_.toNat - lo.toNat) (c - lo.toNat), nzF] W fun e w' => e = .returned (.bool (decide (0 ≤ nzAt ((l.take end_.toNat).drop lo.toNat) 0))) ∧ w' = W) := Lib.hid (fun W hW => by
                  have z := containsFunc_calls A2 (c - lo.toNat) ((l.take end_.toNat).drop lo.toNat) W (Kd.C_below hCM2 hW) (by rw [hlen]; have := HQ.out.2.2; omega)
                  rw [hlen] at z
                  exact z)
                clear q1 q2 q3 hCM hCM2 hlen
                go_wp2_with (first
                  | (go_at_call 25; (with_reducible refine (obj_Right.calls k kind Av cv ws Ar cr raw Ai ci items true _ (Kd.R_reads' HRR.out.1).2.2 (Kd.R_reads' HRR.out.1).2.1 (Kd.R_reads' HRR.out.2.1).2.2 (Kd.R_reads' HRR.out.2.1).2.1 (Kd.R_reads' HRR.out.2.2).2.2 (Kd.R_reads' HRR.out.2.2).2.1 HOK.out).mono ?_); rintro e w8 ⟨rfl, hb⟩; have BF2 := Lib.hid (blk_below BF.out hb); have BL2 := Lib.hid (blk_below BL.out hb); have HRR2 := Lib.hid (And.intro (Kd.R_below HRR.out.1 hb) (And.intro (Kd.R_below HRR.out.2.1 hb) (Kd.R_below HRR.out.2.2 hb))); have HB2 := Lib.hid (HBB.out.trans (hb.mono HBB.out.size)); clear hb)
                  | (go_at_call 41; (with_reducible refine (HCL.out _ HB2.out).mono ?_); rintro e w9 ⟨rfl, rfl⟩))
                go_meet
                case rel => exact ⟨_, rfl, BF2, BL2, HRR2, HB2, Lib.hid (HH.out)⟩
              · have kn1 : (kind != 1) = true := bne_iff_ne.2 e1
                have kn2 : (kind != 2) = false := bne_eq_false_iff_eq.2 (kk.resolve_left e1)
                clear e1 kk
                by_cases hq : 0 ≤ wrap64 (a1 + size) ∧ wrap64 (a1 + size) ≤ end_ ∧ end_ ≤ (l.length : Int)
                case neg => rw [if_neg hq] at h; cases h
                rw [if_pos hq] at h
                obtain ⟨q1, q2, q3⟩ := hq
                obtain ⟨lo, hlo⟩ : ∃ lo, wrap64 (a1 + size) = lo := ⟨_, rfl⟩
                rw [hlo] at q1 q2 h
                have hlo2 : IntKind.i64.wrap (a1 + size) = lo := (i64_w _).trans hlo
                have HH := Lib.hid (ite_some h)
                clear h
                obtain ⟨A2, hA2⟩ : ∃ A2, (if c = lo.toNat then A else Option.map (fun x => x.add lo.toNat) A) = A2 := ⟨_, rfl⟩
                have d1 : (0 ≤ end_) = True := eq_true (by omega)
                have d2 : (end_ ≤ (c : Int)) = True := eq_true (by have := HC.out; omega)
                have d3 : (0 ≤ lo) = True := eq_true q1
                have d4 : (lo ≤ max end_ 0) = True := eq_true (by omega)
                have hCM := Kd.C_mid (lo := lo.toNat) (hi := end_.toNat) HR.out (by omega) (by omega) HC.out
                have hCM2 : Kd.C (Kd.int .u8) w A2 ((l.take end_.toNat).drop lo.toNat).length ((l.take end_.toNat).drop lo.toNat) := by
                  rw [← hA2]
                  have z := hCM
                  rw [show lo.toNat * (Kd.int .u8).sz = lo.toNat from Nat.mul_one _] at z
                  exact z
                have hlen : ((l.take end_.toNat).drop lo.toNat).length = end_.toNat - lo.toNat := by
                  rw [List.length_drop, List.length_take]
                  omega
                have HCL : Hid (∀ W : World, Below w.heap.size w W → Calls Try.prog 41 #[.slice A2 (end_.toNat - lo.toNat) (c - lo.toNat), nzF] W fun e w' => e = .returned (.bool (decide (0 ≤ nzAt ((l.take end_.toNat).drop lo.toNat) 0))) ∧ w' = W) := Lib.hid (fun W hW => by
                  have z := containsFunc_calls A2 (c - lo.toNat) ((l.take end_.toNat).drop lo.toNat) W (Kd.C_below hCM2 hW) (by rw [hlen]; have := HQ.out.2.2; omega)
                  rw [hlen] at z
                  exact z)
                clear q1 q2 q3 hCM hCM2 hlen
                go_wp2_with (first
                  | (go_at_call 25; (with_reducible refine (obj_Right.calls k kind Av cv ws Ar cr raw Ai ci items true _ (Kd.R_reads' HRR.out.1).2.2 (Kd.R_reads' HRR.out.1).2.1 (Kd.R_reads' HRR.out.2.1).2.2 (Kd.R_reads' HRR.out.2.1).2.1 (Kd.R_reads' HRR.out.2.2).2.2 (Kd.R_reads' HRR.out.2.2).2.1 HOK.out).mono ?_); rintro e w8 ⟨rfl, hb⟩; have BF2 := Lib.hid (blk_below BF.out hb); have BL2 := Lib.hid (blk_below BL.out hb); have HRR2 := Lib.hid (And.intro (Kd.R_below HRR.out.1 hb) (And.intro (Kd.R_below HRR.out.2.1 hb) (Kd.R_below HRR.out.2.2 hb))); have HB2 := Lib.hid (HBB.out.trans (hb.mono HBB.out.size)); clear hb)
                  | (go_at_call 41; (with_reducible refine (HCL.out _ HB2.out).mono ?_); rintro e w9 ⟨rfl, rfl⟩))
                go_meet
                case rel => exact ⟨_, rfl, BF2, BL2, HRR2, HB2, Lib.hid (HH.out)⟩
        case rest =>
          clear BF BL HRR HBB H
          obtain ⟨bad, rfl, BF, BL, HRR, HBB, HH⟩ := hcut
          have h := HH.out
          clear HH hrest hend
          have k0 := blk_cell BF.out 0
          have k1 := blk_cell BF.out 1
          have k2 := blk_cell BF.out 2
          have k3 := blk_cell BF.out 3
          have f0 := blk_frozen BF.out 0
          have f1 := blk_frozen BF.out 1
          have f2 := blk_frozen BF.out 2
          have f3 := blk_frozen BF.out 3
          have j0 := blk_cell BL.out 0
          have j1 := blk_cell BL.out 1
          have j2 := blk_cell BL.out 2
          have j3 := blk_cell BL.out 3
          simp at k0 k1 k2 k3 j0 j1 j2 j3
          cases bad with
          | true =>
            rw [if_pos rfl] at h
            simp only [Prod.mk.injEq] at h
            obtain ⟨rfl, rfl, rfl, rfl, rfl, rfl⟩ := h
            go_wp2
            refine bodyPost_ret (results_ctt rfl _ _ g4 42 #[.int .i64 0, .slice none 0 0, .slice none 0 0, .slice none 0 0] (0, 0) _ rfl (obj_put4 BF.out _ _ _ _) Try.underlying42 rfl (by kernel_rfl)) rfl ?_
            exact ⟨_, _, _, rfl, Kd.R_nil _ _ _ _ _, Kd.R_nil _ _ _ _ _, Kd.R_nil _ _ _ _ _, (put4 _ g4 _ _ _ _).below HBB.out (Nat.le_of_eq HG4.out.symm)⟩
          | false =>
            rw [if_neg (by decide)] at h
            simp only [Prod.mk.injEq] at h
            obtain ⟨rfl, rfl, rfl, rfl, rfl, rfl⟩ := h
            go_wp2
            refine bodyPost_ret (results_ctt rfl _ _ g4 42 #[.int .i64 kind, .slice Av ws.length cv, .slice Ar raw.length cr, .slice Ai items.length ci] (0, 0) _ rfl (obj_put4 BF.out _ _ _ _) Try.underlying42 rfl (by kernel_rfl)) rfl ?_
            exact ⟨_, _, _, rfl, (put4 _ g4 _ _ _ _).R HRR.out.1 BF.out (by decide), (put4 _ g4 _ _ _ _).R HRR.out.2.1 BF.out (by decide), (put4 _ g4 _ _ _ _).R HRR.out.2.2 BF.out (by decide), (put4 _ g4 _ _ _ _).below HBB.out (Nat.le_of_eq HG4.out.symm)⟩

-- GIVEN rounds=1 making=1 needs=logbook/obj.Decode
/-! ### scan.All: by hand; a loop over an iterator that hands new memory -/
namespace Rng
variable {F : Fence} {n : Nat} {P : Program}

/-- what a callee's doings, and the loop's own book-keeping from a block on, leave -/
structure Kept {β : Type} (B : Nat) (I : β → World → Prop) : Prop where
  below : ∀ (s : β) (W W' : World), I s W → Below W.heap.size W W' → I s W'
  put : ∀ (s : β) (W : World) (l : Nat) (o o' : Obj), I s W → B ≤ l → W.heap[l]? = some o → o.isCells = false → I s (W.putObj l o')

theorem keepsOthers_below {W W' : World} (h : Below W.heap.size W W') : KeepsOthers W W' :=
  ⟨h.size, fun k o hk _ => (h.block k (Array.getElem?_eq_some_iff.1 hk).1).trans hk⟩

/-- an iterator: at each round what is handed holds G -/
def Seq {α : Type} (F : Fence) (n : Nat) (P : Program) (g : Nat) (lb : Array Value) (encs : α → Array Value) (G : List α → α → Nat → World → Prop) (Kp : World → World → Prop) (S Sp : List α → Prop) (w : World) : Prop :=
  ∀ (l : Nat) (J Jx : List α → World → Prop) (W : World), Below w.heap.size w W → (∀ s A A', J s A → Below A.heap.size A A' → J s A') → (∀ s A A', Jx s A → Below A.heap.size A A' → Jx s A') →
    (∀ pre x Wp W1, J pre Wp → Below Wp.heap.size Wp W1 → G pre x Wp.heap.size W1 → YieldAt F (n - 1) P l (encs x) W1 fun e W' =>
      (e = .returned (.bool true) ∧ J (pre ++ [x]) W' ∧ Kp W1 W') ∨ (e = .returned (.bool false) ∧ Jx (pre ++ [x]) W')) →
    J [] W →
    CallsIn F n P g (#[.func (.yield l) #[] #[]] ++ lb) W fun e W' => (∃ v, e = .returned v) ∧ ((∃ ys, S ys ∧ J ys W') ∨ (∃ pre, Sp pre ∧ Jx pre W'))

/-- how a round's body may be left -/
def post {α : Type} (Kp : World → World → Prop) (I : List α → World → Prop) (Ix : Code → List α → World → Prop) (xs : List α) (W : World) : Exit → Act → World → Prop
  | .normal, _, W' => KeepsOthers W W' ∧ Kp W W' ∧ I xs W'
  | .ret, _, W' => KeepsOthers W W' ∧ Ix .ret xs W'
  | .exit id, _, W' => KeepsOthers W W' ∧ Ix (.exit id) xs W'
  | .goto t, _, W' => KeepsOthers W W' ∧ Ix (.goto t) xs W'
  | .panic _, _, _ => False
  | .outgrown, _, _ => False

theorem wpIn_range {α : Type} {g : Operand} {ps : Array Tmp} {assign body : Code} {Q : Exit → Act → World → Prop} {a : Act} {w : World}
    (hro : F.round = none) (h1 : 1 ≤ n) {gf : Nat} {lb : Array Value} (hg : a.eval g = .func (.func gf) #[] lb) (hFg : F.fn gf) (eg : ∀ args w, (callFunc gf args).run P w = .ok (.enter gf args) w)
    {encs : α → Array Value} {G : List α → α → Nat → World → Prop} {Kp : World → World → Prop} {S Sp : List α → Prop} {w0 : World} (hseq : Seq F (n - 1) P gf lb encs G Kp S Sp w0)
    (hKt : ∀ {A B C : World}, Kp A B → Kp B C → Kp A C) (hKb : ∀ (W : World) (l : Nat) (o o' : Obj), w.heap.size ≤ l → W.heap[l]? = some o → o.isCells = false → Kp W (W.putObj l o')) (hb0 : Below w0.heap.size w0 w) (hps : ∀ x, (encs x).size = ps.size)
    (I : List α → World → Prop) (Ix : Code → List α → World → Prop) (hI : Kept w.heap.size I) (hIx : ∀ c, Kept w.heap.size (Ix c)) (h0 : I [] w) (Ax : List α → α → Act → World → Prop)
    (hAx : ∀ (pre : List α) (x : α) (a' : Act) (W : World) (l : Nat) (o o' : Obj), Ax pre x a' W → w.heap.size ≤ l → W.heap[l]? = some o → o.isCells = false → Ax pre x a' (W.putObj l o'))
    (hassign : ∀ (l : Nat) (pre : List α) (x : α) (Wp W : World) (K : Act → World → Prop), I pre Wp → Below Wp.heap.size Wp W → G pre x Wp.heap.size W → (∀ a' W', KeepsOthers W W' → Kp W W' → Ax pre x a' W' → K a' W') →
      assign.wpIn (F.inRound l) (n - 1 - 1) P (Exit.then K (fun _ _ _ => False)) { tmps := (ps.zip (encs x)).foldl (fun t (p, v) => t.setIfInBounds p v) a.tmps, defers := [] } W)
    (hbody : ∀ (l : Nat) (pre : List α) (x : α) (a' : Act) (W : World), Ax pre x a' W → body.wpIn (F.inRound l) (n - 1 - 1) P (post Kp I Ix (pre ++ [x]) W) a' W)
    (hdone : ∀ (D : Nat) (xs : List α) (W : World), w.heap.size ≤ D → S xs → I xs W → W.heap[D]? = some (.deferred (some [])) → Q .normal { a with defers := { target := .collected D, args := #[] } :: a.defers } W)
    (hstop : ∀ (D : Nat) (c : Code) (pre : List α) (W : World), w.heap.size ≤ D → Sp pre → Ix c pre W → W.heap[D]? = some (.deferred (some [])) → c.wpIn F n P Q { a with defers := { target := .collected D, args := #[] } :: a.defers } W) :
    (Code.rangeFunc g ps assign body).wpIn F n P Q a w := by
  refine wpIn_rangeFunc fun fn hfn => ?_
  rw [hro]
  let st : LoopState → Option Code → Loop := fun s p => { state := s, pending := p, fn, tmps := a.tmps, params := ps, assign, body, defers := w.heap.size }
  let L := w.heap.size + 1
  let wA := w.alloc (.deferred (some []))
  let wB := wA.alloc (.loop (st .ready none))
  have sA : wA.heap.size = L := World.size_alloc _ _
  have bA : Below w.heap.size w wA := (Below.refl _ w).alloc (Nat.le_refl _) _
  have bB : Below w.heap.size w wB := bA.alloc (by rw [sA]; exact Nat.le_succ _) _
  have dA : wA.heap[w.heap.size]? = some (.deferred (some [])) := World.alloc_heap_new w _
  have dB : wB.heap[w.heap.size]? = some (.deferred (some [])) := (Below.heap_alloc wA _ _ (by rw [sA]; exact Nat.lt_succ_self _)).trans dA
  have lB : wB.heap[L]? = some (.loop (st .ready none)) := by have h := World.alloc_heap_new wA (.loop (st .ready none)); rwa [sA] at h
  have iB : I [] wB := hI.below _ _ _ h0 bB
  -- between two rounds, and behind the last one
  let Book : Loop → World → Prop := fun r W => W.heap[L]? = some (.loop r) ∧ W.heap[w.heap.size]? = some (.deferred (some []))
  have book : ∀ (r : Loop) (A A' : World), Book r A → Below A.heap.size A A' → Book r A' := fun r A A' h hb =>
    ⟨(hb.block _ (Array.getElem?_eq_some_iff.1 h.1).1).trans h.1, (hb.block _ (Array.getElem?_eq_some_iff.1 h.2).1).trans h.2⟩
  refine ⟨L, [{ target := .collected w.heap.size, args := #[] }], wB, { target := .fn (.func gf) lb, args := #[.func (.yield L) #[] #[]] }, wB, gf,
    #[.func (.yield L) #[] #[]] ++ lb, wB, run_enterLoop_outer _ _ _ _ _, ?_, ?_, ?_, fun _ => h1, ?_⟩
  · simp only [resolve, hg]
    simp [go_sem]
  · intro f' hf'; simp [Target.leads] at hf'; subst hf'; exact hFg
  · simp [invoke, go_sem, eg]
  refine (hseq L (fun pre W => I pre W ∧ Book (st .ready none) W) (fun pre W => ∃ c, Ix c pre W ∧ Book (st .done (some c)) W) wB (hb0.trans (bB.mono hb0.size))
    (fun s A A' h hb => ⟨hI.below _ _ _ h.1 hb, book _ _ _ h.2 hb⟩)
    (fun s A A' h hb => by obtain ⟨c, hc, hk⟩ := h; exact ⟨c, (hIx c).below _ _ _ hc hb, book _ _ _ hk hb⟩) ?_ ⟨iB, lB, dB⟩).mono ?_
  · rintro pre x Wp W0 ⟨hi, hlp, hdp⟩ hbp hx
    have hl0 := blk_below hlp hbp
    have hd0 := blk_below hdp hbp
    refine ⟨fn, _, assign, body, run_yield (P := P) (args := encs x) hl0 (hps x), roundIn_of_wpIn hfn (hassign _ pre x Wp W0 _ hi hbp hx fun a' W hka hkp0 hax => ?_)⟩
    have hl := hka.same _ _ hl0 rfl
    have hd := hka.same _ _ hd0 rfl
    have hlt := (Array.getElem?_eq_some_iff.1 hl).1
    refine ⟨_, run_beginRound hl rfl, ?_⟩
    have hl2 : (W.putObj L (.loop (st .busy none))).heap[L]? = some (.loop (st .busy none)) := World.putObj_heap_same hlt
    have hd2 : (W.putObj L (.loop (st .busy none))).heap[w.heap.size]? = some (.deferred (some [])) := (World.putObj_heap_other (Nat.ne_of_lt (Nat.lt_succ_self _))).trans hd
    have hk2 : Kp W0 (W.putObj L (.loop (st .busy none))) := hKt hkp0 (hKb _ _ _ _ (Nat.le_succ _) hl rfl)
    refine wpIn_mono (hbody _ pre x a' _ (hAx _ _ _ _ _ _ _ hax (Nat.le_succ _) hl rfl)) ?_
    have leave : ∀ (c : Code) (W3 : World), KeepsOthers (W.putObj L (.loop (st .busy none))) W3 → Ix c (pre ++ [x]) W3 →
        ∃ v w', (Instr.endRound L (some c)).run P W3 = .ok v w' ∧ ((Ending.returned v = .returned (.bool true) ∧ (I (pre ++ [x]) w' ∧ Book (st .ready none) w') ∧ Kp W0 w') ∨ (Ending.returned v = .returned (.bool false) ∧ ∃ c, Ix c (pre ++ [x]) w' ∧ Book (st .done (some c)) w')) := fun c W3 hk hi3 => by
      have hl3 := hk.same _ _ hl2 rfl
      exact ⟨_, _, run_endRound (P := P) (some c) hl3, .inr ⟨rfl, c, (hIx c).put _ _ _ _ _ hi3 (Nat.le_succ _) hl3 rfl, World.putObj_heap_same (Array.getElem?_eq_some_iff.1 hl3).1, (World.putObj_heap_other (Nat.ne_of_lt (Nat.lt_succ_self _))).trans (hk.same _ _ hd2 rfl)⟩⟩
    rintro e a3 W3 hp
    cases e with
    | normal =>
      obtain ⟨hk, hkp, hi3⟩ := hp
      have hl3 := hk.same _ _ hl2 rfl
      exact ⟨_, _, run_endRound (P := P) none hl3, .inl ⟨rfl, ⟨hI.put _ _ _ _ _ hi3 (Nat.le_succ _) hl3 rfl, World.putObj_heap_same (Array.getElem?_eq_some_iff.1 hl3).1, (World.putObj_heap_other (Nat.ne_of_lt (Nat.lt_succ_self _))).trans (hk.same _ _ hd2 rfl)⟩, hKt (hKt hk2 hkp) (hKb _ _ _ _ (Nat.le_succ _) hl3 rfl)⟩⟩
    | ret => exact leave _ _ hp.1 hp.2
    | exit id => exact leave _ _ hp.1 hp.2
    | goto t => exact leave _ _ hp.1 hp.2
    | panic ch => exact hp.elim
    | outgrown => exact hp.elim
  · rintro e W2 ⟨⟨v, rfl⟩, (⟨xs, hS, hi, hl, hd⟩ | ⟨pre, hSp, c, hi, hl, hd⟩)⟩
    · exact ⟨none, _, run_endLoop (P := P) hl (by simp [st]), hdone _ xs _ (Nat.le_refl _) hS (hI.put _ _ _ _ _ hi (Nat.le_succ _) hl rfl) ((World.putObj_heap_other (Nat.ne_of_lt (Nat.lt_succ_self _))).trans hd)⟩
    · exact ⟨some c, _, run_endLoop (P := P) hl (by simp [st]), hstop _ c pre _ (Nat.le_refl _) hSp ((hIx c).put _ _ _ _ _ hi (Nat.le_succ _) hl rfl) ((World.putObj_heap_other (Nat.ne_of_lt (Nat.lt_succ_self _))).trans hd)⟩
section
variable {n : Nat} {P : Program} {ops : Array Oper} {Q : Exit → Act → World → Prop} {S : World → Prop}
theorem wpIn_of_wp (l : Nat) {o : Oper} {a : Act} {w : World} {K : Act → World → Prop} (hd : ∀ c, o.op ≠ .defer c) (h : o.wp P a w K Q) : o.wpIn (Fence.wide.inRound l) n P a w K Q := by
  refine ⟨fun _ _ => trivial, ?_⟩
  rw [Fence.inRound_round, Oper.semAt_some _ _ _ hd]
  unfold Oper.wp at h
  generalize (execOp a.eval o).run P w = r at h
  cases r with
  | ok x w' =>
    cases x with
    | value v => exact h
    | skip => exact h
    | defer d => exact h
    | enter f args => exact ⟨fun h_ => (by cases h_), CallsIn.inRound l (callsIn_wide.2 h)⟩
    | row row args => exact ⟨fun h_ => (by cases h_), fun c cs _ => by obtain ⟨v, w', r, s⟩ := h c cs; exact ⟨v, w', r, stepsIn_wide.2 s⟩⟩
    | round l' f tmps assign body => exact h.elim
    | _ => exact h.elim
  | halt x w' =>
    cases x with
    | panic v => exact h
    | _ => exact h.elim
theorem wpOpIn_of_wpOp (l : Nat) (hd : ∀ (j : Nat) (o : Oper) c, ops[j]? = some o → o.op ≠ .defer c) (hq : ¬ LetsOut Q) {i : Nat} {K : Act → World → Prop} {a : Act} {w : World} (h : wpOp P ops Q i K a w) : wpOpIn (Fence.wide.inRound l) n P ops Q i K a w := by
  unfold wpOp at h
  unfold wpOpIn
  cases ho : ops[i]? with
  | none => rw [ho] at h; exact h
  | some o =>
    rw [ho] at h
    dsimp only at h ⊢
    by_cases hw : Region.wanted o (yielded ops a.tmps) = true
    · rw [if_pos hw] at h ⊢
      exact wpIn_of_wp l (hd i o · ho) (h.resolve_right (fun h_ => hq h_.2))
    · rw [if_neg hw] at h ⊢
      exact ⟨fun _ _ => trivial, h⟩
theorem wpAnyIn_of_wpAny (l : Nat) {md : Region.Mode} (hd : ∀ (j : Nat) (o : Oper) c, ops[j]? = some o → o.op ≠ .defer c) (hq : ¬ LetsOut Q) : ∀ (fuel : Nat) (listed : Array Bool) (a : Act) (w : World), wpAny P md ops Q fuel listed a w → wpAnyIn (Fence.wide.inRound l) n P md ops Q fuel listed a w
  | 0, _, _, _, h => h
  | fuel + 1, _, _, _, h => ⟨h.1, fun i hi => wpOpIn_of_wpOp l hd hq (wpOp_mono (fun a' w' h' => wpAnyIn_of_wpAny l hd hq fuel _ a' w' h') (h.2 i hi))⟩
theorem wpIn_round_any (l : Nat) {id : Nat} {a : Act} {w : World} (hm : P.follows .mixedOrders = true) (hd : ∀ (j : Nat) (o : Oper) c, ops[j]? = some o → o.op ≠ .defer c) (hq : ¬ LetsOut Q)
    (h : wpAny P .any ops Q ops.size (Array.replicate ops.size false) a w.drew) : (Code.region id ops true).wpIn (Fence.wide.inRound l) n P Q a w :=
  wpIn_region_any hm (wpAnyIn_of_wpAny l hd hq _ _ _ _ h)
theorem wpIn_round_held (l : Nat) {id : Nat} {a : Act} {w : World} (hm : P.follows .mixedOrders = true) (hd : ∀ (j : Nat) (o : Oper) c, ops[j]? = some o → o.op ≠ .defer c) (hq : ¬ LetsOut Q)
    (h : wpAnyH P .any ops Q S ops.size (Array.replicate ops.size false) a w.drew) : (Code.region id ops true).wpIn (Fence.wide.inRound l) n P Q a w :=
  wpIn_round_any l hm hd hq (wpAny_of_held _ _ _ _ h)
theorem wpIn_round_still_tail (l0 : Nat) {id : Nat} {a : Act} {w : World} {l : List Oper} (k : Nat) (hm : P.follows .mixedOrders = true) (hd : ∀ (j : Nat) (o : Oper) c, l.toArray[j]? = some o → o.op ≠ .defer c) (hq : ¬ LetsOut Q) (hB : Region.lexTailB .any l.toArray k = true)
    (h : wpStill P l.toArray w.drew (fun a' => wpList P l.toArray Q (l.drop k) a' w.drew) (l.take k) a) : (Code.region id l.toArray true).wpIn (Fence.wide.inRound l0) n P Q a w := by
  simp only [Region.lexTailB, Bool.and_eq_true, decide_eq_true_eq] at hB
  obtain ⟨⟨⟨⟨hsel, hn⟩, hs⟩, hc⟩, hlex⟩ := hB
  have hn' : k < l.length := by simpa using hn
  have htl : (l.take k).length = k := by simp; omega
  have hdl : (l.drop k).length = l.toArray.size - k := by simp
  have inv0 : HeadInv .any l.toArray k (Array.replicate l.toArray.size false) :=
    ⟨by simp, fun j oj _ hl => (by rw [getD_replicate_false] at hl; cases hl), fun t _ ht => getD_in (by simpa using ht) (getD_replicate_false _ _)⟩
  have H := wpAnyL_lex (md := .any) (g := l.toArray.size - k) hsel hs hc hn (l.take k) 0 _ a (fun j hj => by
    have hj' : j < k := by rw [htl] at hj; exact hj
    simp [hj']) (by simpa using htl) inv0 (by rw [htl]; exact hlex) h
  refine wpIn_round_any l0 hm hd hq ?_
  have := wpAny_of_head (Q' := Q) (g := l.toArray.size - k) (fun listed a' hL => by
    have := wpAny_of_seq (md := .any) (Q' := Q) (l.drop k) k listed a' w.drew (fun j => by simp [List.getElem?_drop]) (by rw [hdl]; exact hL.1) hL.2
    rwa [hdl] at this) _ _ _ H
  rw [htl, show k + (l.toArray.size - k) = l.toArray.size by omega] at this
  exact this
theorem noDefer_spec {ops : Array Oper} (h : (ops.toList.all fun o => match o.op with | .defer _ => false | _ => true) = true) : ∀ (j : Nat) (o : Oper) c, ops[j]? = some o → o.op ≠ .defer c := by
  intro j o c hj hc
  have hm : o ∈ ops.toList := List.mem_of_getElem? (i := j) (by rw [Array.getElem?_toList]; exact hj)
  have hx := List.all_eq_true.1 h o hm
  rw [hc] at hx
  cases hx
theorem wpAnyH_takeL {md : Region.Mode} {L : List Oper} {i : Nat} {oi : Oper} {v : Value} {fuel : Nat} {listed : Array Bool} {a : Act} {w : World} (hi : L[i]? = some oi)
    (hs : Region.noSelect L.toArray = true) (hf : Region.free md L.toArray listed i = true) (hr : (Region.ready md L.toArray listed).contains i = true)
    (hQ : ∀ c a w, Q (.panic c) (a.put oi.dst v) w → Q (.panic c) a w) (hy : YieldsIf P L.toArray S oi v a) (hS : S w)
    (h : wpAnyH P md L.toArray Q S fuel (listed.setIfInBounds i true) (a.put oi.dst v) w) : wpAnyH P md L.toArray Q S (fuel + 1) listed a w :=
  wpAnyH_take (by simpa using hi) hs hf hr hQ hy hS h
end
end Rng
abbrev ORow : Type := Int × Int × List Int × List Int × List Int × Int
/-- the objects from a place on: place, kind, words, bytes, items, end -/
def allL (k : Nat) (l : List Int) (lim : Int) : Nat → Int → Option (List ORow)
  | 0, _ => none
  | m + 1, a => if a < lim ∧ a < (l.length : Int) then (obj_Decode.f k l a).bind fun d =>
      if d.2.2.2.2.2 = true ∧ d.2.2.2.2.1 ≤ lim then (allL k l lim m d.2.2.2.2.1).bind fun r => some ((a, d.1, d.2.1, d.2.2.1, d.2.2.2.1, d.2.2.2.2.1) :: r) else some [] else some []
theorem allL_fuel (k : Nat) (l : List Int) (lim : Int) : ∀ (m : Nat) (a : Int), LeO (allL k l lim m a) (allL k l lim (m + 1) a)
  | 0, _ => fun r h => by cases h
  | m + 1, a => by
      unfold allL
      refine LeO.ite (LeO.bind (LeO.refl _) (fun d => LeO.ite (LeO.bind (allL_fuel k l lim m _) (fun r => LeO.refl _)) (LeO.refl _))) (LeO.refl _)
theorem allL_k (k : Nat) (l : List Int) (lim : Int) : ∀ (m : Nat) (a : Int), LeO (allL k l lim m a) (allL (k + 1) l lim m a)
  | 0, _ => LeO.refl _
  | m + 1, a => by
      unfold allL
      refine LeO.ite (LeO.bind (obj_Decode.mono _ _ _) (fun d => LeO.ite (LeO.bind (allL_k k l lim m _) (fun r => LeO.refl _)) (LeO.refl _))) (LeO.refl _)
theorem allL_le (k : Nat) (l : List Int) (lim : Int) (m : Nat) (a : Int) : ∀ d, LeO (allL k l lim m a) (allL k l lim (m + d) a)
  | 0 => LeO.refl _
  | d + 1 => fun r h => allL_fuel k l lim (m + d) a r (allL_le k l lim m a d r h)
theorem allL_one {k : Nat} {l : List Int} {lim a : Int} {m n : Nat} {r s : List ORow} (h : allL k l lim m a = some r) (h' : allL k l lim n a = some s) : r = s := by
  have e1 := allL_le k l lim m a n r h
  have e2 := allL_le k l lim n a m s h'
  rw [Nat.add_comm] at e2
  exact Option.some.inj (e1.symm.trans e2)
noncomputable def allM (k : Nat) (l : List Int) (lim a : Int) : Nat :=
  @dite _ (∃ r, ∃ m, allL k l lim m a = some r) (Classical.propDecidable _) (fun h => (Classical.choose h).length) (fun _ => 0)
theorem allM_eq {k : Nat} {l : List Int} {lim a : Int} {m : Nat} {r : List ORow} (h : allL k l lim m a = some r) : allM k l lim a = r.length := by
  have hx : ∃ r, ∃ m, allL k l lim m a = some r := ⟨r, m, h⟩
  unfold allM
  rw [dif_pos hx]
  obtain ⟨n, hn⟩ := Classical.choose_spec hx
  rw [allL_one hn h]
structure SObj where
  at_ : Int
  kind : Int
  v1 : Value
  v2 : Value
  v3 : Value
  ws : List Int
  raw : List Int
  its : List Int
  end_ : Int
def SObj.row (x : SObj) : ORow := (x.at_, x.kind, x.ws, x.raw, x.its, x.end_)
def sEnc (x : SObj) : Array Value := #[.int .i64 x.at_, .agg #[.int .i64 x.kind, x.v1, x.v2, x.v3]]
def sG (rows : List ORow) (pre : List SObj) (x : SObj) (B : Nat) (W : World) : Prop :=
  (∃ t, pre.map SObj.row ++ x.row :: t = rows) ∧ Kd.R (Kd.int .u64) 47 W B (fun k_ => some k_ ≠ x.v3.ownBlock) x.v1 x.ws ∧ Kd.R (Kd.int .u8) 5 W B (fun _ => True) x.v2 x.raw ∧ Kd.R (Kd.int .u64) 47 W B (fun k_ => some k_ ≠ x.v1.ownBlock) x.v3 x.its
theorem put_other {W : World} {l k : Nat} {o o' : Obj} {cs : Array Value} {t : TypeId} {fr : Nat × Nat} (hl : W.heap[l]? = some o) (ho : o.isCells = false) (hk : W.heap[k]? = some (.cells cs t fr)) : (W.putObj l o').heap[k]? = W.heap[k]? :=
  World.putObj_heap_other (fun e => by rw [e, hl] at hk; injection hk with hk; rw [hk] at ho; cases ho)
theorem R_put {α : Type} {d : Kd α} {e base : Nat} {ok : Nat → Prop} {W : World} {v : Value} {xs : List α} (h : d.R e W base ok v xs) {l : Nat} {o : Obj} (o' : Obj) (hl : W.heap[l]? = some o) (ho : o.isCells = false) : d.R e (W.putObj l o') base ok v xs :=
  Kd.R_mono (Kd.R_move (Kd.R_bound h) (fun k hk => by obtain ⟨_, _, _, q, _, cells, hc⟩ := hk; exact put_other hl ho hc)) (fun _ hk => hk.1)
theorem S_put {α : Type} {d : Kd α} {e base : Nat} {ok : Nat → Prop} {W : World} {v : Value} {xs : List α} (h : Kd.S d e W base ok v xs) {l : Nat} {o : Obj} (o' : Obj) (hl : W.heap[l]? = some o) (ho : o.isCells = false) : Kd.S d e (W.putObj l o') base ok v xs :=
  Kd.S_mono (Kd.S_move (Kd.S_bound h) (fun k hk => by obtain ⟨_, _, _, q, _, cells, hc⟩ := hk; exact put_other hl ho hc)) (fun _ hk => hk.1)
theorem below_put {n : Nat} {w W : World} (h : Below n w W) {l : Nat} {o : Obj} (o' : Obj) (hn : n ≤ l) (hl : W.heap[l]? = some o) : Below n w (W.putObj l o') :=
  h.trans ((Below.refl n W).grown (grownBy_putObj' W l o') (by have := (Array.getElem?_eq_some_iff.1 hl).1; omega) (fun k e => by cases e; exact hn))
theorem belowKb {n : Nat} {w : World} (hn : n ≤ w.heap.size) (W : World) (l : Nat) (o o' : Obj) (hl : w.heap.size ≤ l) (h : W.heap[l]? = some o) (_ : o.isCells = false) : Below n W (W.putObj l o') :=
  below_put (Below.refl n W) o' (Nat.le_trans hn hl) h
theorem sG_put {B : Nat} {rows : List ORow} {pre : List SObj} {x : SObj} {W : World} (h : sG rows pre x B W) {l : Nat} {o : Obj} (o' : Obj) (hl : W.heap[l]? = some o) (ho : o.isCells = false) : sG rows pre x B (W.putObj l o') :=
  ⟨h.1, R_put h.2.1 o' hl ho, R_put h.2.2.1 o' hl ho, R_put h.2.2.2 o' hl ho⟩
theorem sG_lower {B B' : Nat} {rows : List ORow} {pre : List SObj} {x : SObj} {W : World} (h : sG rows pre x B W) (hb : B' ≤ B) : sG rows pre x B' W :=
  ⟨h.1, Kd.R_lower h.2.1 hb, Kd.R_lower h.2.2.1 hb, Kd.R_lower h.2.2.2 hb⟩
theorem sG_below {B : Nat} {rows : List ORow} {pre : List SObj} {x : SObj} {W W' : World} (h : sG rows pre x B W) (hb : Below W.heap.size W W') : sG rows pre x B W' :=
  ⟨h.1, Kd.R_below h.2.1 hb, Kd.R_below h.2.2.1 hb, Kd.R_below h.2.2.2 hb⟩
/-- what a round must keep for the iterator: what lay ahead, and its three boxes -/
structure KpS (n₀ bb bf bt : Nat) (W W' : World) : Prop where
  low : Below n₀ W W'
  b : W'.heap[bb]? = W.heap[bb]?
  f : W'.heap[bf]? = W.heap[bf]?
  t : W'.heap[bt]? = W.heap[bt]?
theorem KpS.trans {n₀ bb bf bt : Nat} {A B C : World} (h : KpS n₀ bb bf bt A B) (k : KpS n₀ bb bf bt B C) : KpS n₀ bb bf bt A C :=
  ⟨h.low.trans k.low, k.b.trans h.b, k.f.trans h.f, k.t.trans h.t⟩
theorem KpS.of_below {n₀ bb bf bt : Nat} {W W' : World} (h : Below W.heap.size W W') (hn : n₀ ≤ W.heap.size) (h1 : bb < W.heap.size) (h2 : bf < W.heap.size) (h3 : bt < W.heap.size) : KpS n₀ bb bf bt W W' :=
  ⟨h.mono hn, h.block _ h1, h.block _ h2, h.block _ h3⟩
theorem KpS.set {n₀ bb bf bt : Nat} (W : World) {g : Nat} (hn : n₀ ≤ g) (h1 : bb ≠ g) (h2 : bf ≠ g) (h3 : bt ≠ g) (j : Nat) (v : Value) : KpS n₀ bb bf bt W (W.setCell ⟨g, j, none⟩ v) :=
  ⟨(Below.refl n₀ W).setCell (p := ⟨g, j, none⟩) hn v, Below.heap_setCell W ⟨g, j, none⟩ v bb h1, Below.heap_setCell W ⟨g, j, none⟩ v bf h2, Below.heap_setCell W ⟨g, j, none⟩ v bt h3⟩
theorem kpS_put {n₀ bb bf bt : Nat} {w : World} (hn : n₀ ≤ w.heap.size) (h1 : bb < w.heap.size) (h2 : bf < w.heap.size) (h3 : bt < w.heap.size) (W : World) (l : Nat) (o o' : Obj) (hl : w.heap.size ≤ l) (h : W.heap[l]? = some o) (_ : o.isCells = false) : KpS n₀ bb bf bt W (W.putObj l o') :=
  ⟨below_put (Below.refl n₀ W) o' (Nat.le_trans hn hl) h, World.putObj_heap_other (by omega), World.putObj_heap_other (by omega), World.putObj_heap_other (by omega)⟩
section
attribute [local go_sem] Oper.semAt_some
set_option maxRecDepth 100000 in
set_option maxHeartbeats 6400000 in
theorem all1_seq (n k : Nat) (l : List Int) (A : Option Addr) (c : Nat) (frm lim : Int) (rows : List ORow) (bb bf bt m : Nat) (w₀ w : World) (hw0 : Below w₀.heap.size w₀ w)
    (hb : w.heap[bb]? = some (.cells #[.slice A l.length c] 22 (0, 0))) (hf : w.heap[bf]? = some (.cells #[.int .i64 frm] 3 (0, 0))) (ht : w.heap[bt]? = some (.cells #[.int .i64 lim] 3 (0, 0)))
    (hr : Kd.C (Kd.int .u8) w₀ A l.length l) (hc : l.length ≤ c) (h : allL k l lim m frm = some rows) :
    Rng.Seq Fence.wide n Try.prog 31 #[.pointer (some ⟨bf, 0, none⟩), .pointer (some ⟨bt, 0, none⟩), .pointer (some ⟨bb, 0, none⟩)] sEnc (sG rows) (KpS w₀.heap.size bb bf bt)
      (fun ys => ys.map SObj.row = rows) (fun pre => ∃ t, pre.map SObj.row ++ t = rows) w := fun yl J Jx W hW hJ hJx hY h0 => by
  have HBB := Lib.hid hb
  have HBF := Lib.hid hf
  have HBT := Lib.hid ht
  have HR := Lib.hid hr
  have HC := Lib.hid hc
  have HA := Lib.hid h
  have HW0 := Lib.hid hw0
  have HWB := Lib.hid (KpS.of_below (bb := bb) (bf := bf) (bt := bt) hW hw0.size (blk_lt hb) (blk_lt hf) (blk_lt ht))
  have HJ := Lib.hid hJ
  have HJX := Lib.hid hJx
  have HY := Lib.hid hY
  have H0 := Lib.hid h0
  have kf := blk_cell (blk_below hf hW) 0
  simp at kf
  clear hb hf ht hr hc h hw0 hW hJ hJx hY h0
  refine callsIn_of_wp Try.func31 rfl trivial ?_ rfl
  simp only [Try.ntmps31, List.size_toArray, List.length_cons, List.length_nil, Nat.reduceAdd, Nat.reduceSub, Array.replicate_succ, Array.replicate_zero, List.push_toArray, List.append_toArray, List.nil_append, List.cons_append]
  gi_wp2
  gi_loopw [5] (fun p wr => ∃ (pre : List SObj) (rest : List ORow) (q : Int) (m : Nat), p = .int .i64 q ∧ Hid (pre.map SObj.row ++ rest = rows) ∧ Hid (allL k l lim m q = some rest) ∧ Hid (J pre wr) ∧ Hid (KpS w₀.heap.size bb bf bt w wr)) (fun p _ => allM k l lim (intOf p))
  case atStart => exact ⟨[], rows, frm, m, rfl, Lib.hid rfl, HA, H0, HWB⟩
  case round =>
    clear kf
    obtain ⟨pre, rest, q, m, rfl, hrow, hal, hj, hbw⟩ := hrel
    have kb := blk_cell (hbw.out.b.trans HBB.out) 0
    have kt := blk_cell (hbw.out.t.trans HBT.out) 0
    have hlow := HW0.out.trans hbw.out.low
    have hltb := blk_lt (hbw.out.b.trans HBB.out)
    have hltf := blk_lt (hbw.out.f.trans HBF.out)
    have hltt := blk_lt (hbw.out.t.trans HBT.out)
    have HLOW := Lib.hid hlow
    have HLT := Lib.hid (And.intro hltb (And.intro hltf hltt))
    clear hlow hltb hltf hltt
    simp at kb kt
    cases m with
    | zero => cases hal.out
    | succ m =>
      have hal1 := hal.out
      have HQQ := Lib.hid hal.out
      unfold allL at hal1
      by_cases hlt : q < lim ∧ q < (l.length : Int)
      case neg =>
        rw [if_neg hlt] at hal1
        cases hal1
        have hfin : List.map SObj.row pre = rows := by simpa using hrow.out
        have HFIN := Lib.hid hfin
        by_cases h1 : q < lim
        · have h2 : ¬ q < (l.length : Int) := fun h => hlt ⟨h1, h⟩
          have h3 : (l.length : Int) < lim := by omega
          have h4 : ¬ lim ≤ (l.length : Int) := by omega
          clear hlt hfin
          gi_wp2
          all_goals (go_end0; exact ⟨⟨_, rfl⟩, .inl ⟨pre, HFIN.out, hj.out⟩⟩)
        · clear hlt hfin
          gi_wp2
          all_goals first | (go_end0; exact ⟨⟨_, rfl⟩, .inl ⟨pre, HFIN.out, hj.out⟩⟩) | (exfalso; omega)
      rw [if_pos hlt] at hal1
      obtain ⟨h1, h2⟩ := hlt
      obtain ⟨⟨r1, r2, r3, r4, r5, r6⟩, hd, hal2⟩ := Option.bind_eq_some_iff.1 hal1
      dsimp only at hal2
      have HD := Lib.hid hd
      have HAL2 := Lib.hid hal2
      clear hal hal1 hal2 hd
      by_cases hst : r6 = true ∧ r5 ≤ lim
      case neg =>
        have hx := HAL2.out
        rw [if_neg hst] at hx
        cases hx
        have hfin : List.map SObj.row pre = rows := by simpa using hrow.out
        have HFIN := Lib.hid hfin
        cases r6 with
        | false =>
          clear hst hfin
          gi_wp2_with (refine ⟨trivial, fun h_ => (by cases h_), ?_⟩; refine (callsIn_wide.2 (obj_Decode.calls k A c l q r1 r2 r3 r4 r5 false _ (Kd.C_below HR.out HLOW.out) HC.out HD.out)).mono ?_; rintro e w2 ⟨v1, v2, v3, rfl, ho1, ho2, ho3, hb2⟩; obtain ⟨A1, c1, rfl⟩ := Kd.R_slice ho1; obtain ⟨A2, c2, rfl⟩ := Kd.R_slice ho2; obtain ⟨A3, c3, rfl⟩ := Kd.R_slice ho3; have HB2 := Lib.hid hb2; have HO := Lib.hid (And.intro ho1 (And.intro ho2 ho3)); have kt2 := blk_cell (blk_below (hbw.out.t.trans HBT.out) hb2) 0; simp at kt2; have kt3 : (w2.alloc (.cells #[.int .i64 r1, .slice A1 r2.length c1, .slice A2 r3.length c2, .slice A3 r4.length c3] 42)).cell? ⟨bt, 0, none⟩ = some (.int .i64 lim) := cell_later ((Below.refl _ _).alloc (Nat.le_refl _) _) kt2; clear ho1 ho2 ho3 hb2)
          all_goals
            refine ⟨fun _ h_ => (by cases h_), ?_⟩
            gi_wp2
            refine bodyPost_ret (results_none rfl _ _ _) rfl ?_
            exact ⟨⟨_, rfl⟩, .inl ⟨pre, HFIN.out, HJ.out _ _ _ hj.out (HB2.out.alloc HB2.out.size _)⟩⟩
        | true =>
          have h5 : ¬ r5 ≤ lim := fun h => hst ⟨rfl, h⟩
          have h6 : lim < r5 := by omega
          clear hst hfin
          gi_wp2_with (refine ⟨trivial, fun h_ => (by cases h_), ?_⟩; refine (callsIn_wide.2 (obj_Decode.calls k A c l q r1 r2 r3 r4 r5 true _ (Kd.C_below HR.out HLOW.out) HC.out HD.out)).mono ?_; rintro e w2 ⟨v1, v2, v3, rfl, ho1, ho2, ho3, hb2⟩; obtain ⟨A1, c1, rfl⟩ := Kd.R_slice ho1; obtain ⟨A2, c2, rfl⟩ := Kd.R_slice ho2; obtain ⟨A3, c3, rfl⟩ := Kd.R_slice ho3; have HB2 := Lib.hid hb2; have HO := Lib.hid (And.intro ho1 (And.intro ho2 ho3)); have kt2 := blk_cell (blk_below (hbw.out.t.trans HBT.out) hb2) 0; simp at kt2; have kt3 : (w2.alloc (.cells #[.int .i64 r1, .slice A1 r2.length c1, .slice A2 r3.length c2, .slice A3 r4.length c3] 42)).cell? ⟨bt, 0, none⟩ = some (.int .i64 lim) := cell_later ((Below.refl _ _).alloc (Nat.le_refl _) _) kt2; clear ho1 ho2 ho3 hb2)
          all_goals
            refine ⟨fun _ h_ => (by cases h_), ?_⟩
            gi_wp2
            refine bodyPost_ret (results_none rfl _ _ _) rfl ?_
            exact ⟨⟨_, rfl⟩, .inl ⟨pre, HFIN.out, HJ.out _ _ _ hj.out (HB2.out.alloc HB2.out.size _)⟩⟩
      case pos =>
        obtain ⟨rfl, h5⟩ := hst
        have hx := HAL2.out
        rw [if_pos ⟨rfl, h5⟩] at hx
        obtain ⟨rest2, hr2, hx2⟩ := Option.bind_eq_some_iff.1 hx
        have HR2 := Lib.hid hr2
        have HX := Lib.hid (Option.some.inj hx2)
        have h6 : ¬ lim < r5 := by omega
        clear hx hx2 hr2
        gi_wp2_with (refine ⟨trivial, fun h_ => (by cases h_), ?_⟩; refine (callsIn_wide.2 (obj_Decode.calls k A c l q r1 r2 r3 r4 r5 true _ (Kd.C_below HR.out HLOW.out) HC.out HD.out)).mono ?_; rintro e w2 ⟨v1, v2, v3, rfl, ho1, ho2, ho3, hb2⟩; obtain ⟨A1, c1, rfl⟩ := Kd.R_slice ho1; obtain ⟨A2, c2, rfl⟩ := Kd.R_slice ho2; obtain ⟨A3, c3, rfl⟩ := Kd.R_slice ho3; have HB2 := Lib.hid hb2; have HO := Lib.hid (And.intro ho1 (And.intro ho2 ho3)); have kt2 := blk_cell (blk_below (hbw.out.t.trans HBT.out) hb2) 0; simp at kt2; have kt3 : (w2.alloc (.cells #[.int .i64 r1, .slice A1 r2.length c1, .slice A2 r3.length c2, .slice A3 r4.length c3] 42)).cell? ⟨bt, 0, none⟩ = some (.int .i64 lim) := cell_later ((Below.refl _ _).alloc (Nat.le_refl _) _) kt2; have hb3 : Below wr.heap.size wr (w2.alloc (.cells #[.int .i64 r1, .slice A1 r2.length c1, .slice A2 r3.length c2, .slice A3 r4.length c3] 42)) := hb2.alloc hb2.size _; have HB3 := Lib.hid hb3; have hg0 : ∃ t, pre.map SObj.row ++ ((q, r1, r2, r3, r4, r5) : ORow) :: t = rows := ⟨rest2, by rw [HX.out]; exact hrow.out⟩; have hg := And.intro hg0 (And.intro (Kd.R_below ho1 ((Below.refl _ _).alloc (Nat.le_refl _) (.cells #[.int .i64 r1, .slice A1 r2.length c1, .slice A2 r3.length c2, .slice A3 r4.length c3] 42))) (And.intro (Kd.R_below ho2 ((Below.refl _ _).alloc (Nat.le_refl _) (.cells #[.int .i64 r1, .slice A1 r2.length c1, .slice A2 r3.length c2, .slice A3 r4.length c3] 42))) (Kd.R_below ho3 ((Below.refl _ _).alloc (Nat.le_refl _) (.cells #[.int .i64 r1, .slice A1 r2.length c1, .slice A2 r3.length c2, .slice A3 r4.length c3] 42))))); obtain ⟨fn, tmps, assign, body, hy, hRR⟩ := HY.out pre ⟨q, r1, .slice A1 r2.length c1, .slice A2 r3.length c2, .slice A3 r4.length c3, r2, r3, r4, r5⟩ wr _ hj.out hb3 hg; dsimp only [sEnc] at hy; have HRR := Lib.hid hRR; clear hRR hb3 hg; clear ho1 ho2 ho3 hb2)
        all_goals
          refine ⟨fun h_ => (by cases h_), HRR.out.mono ?_⟩
          rintro e W' (⟨rfl, hJ', hk⟩ | ⟨rfl, hJx'⟩)
          · have HJ1 := Lib.hid hJ'
            have HK := Lib.hid ((hbw.out.trans (KpS.of_below HB3.out (Nat.le_trans HW0.out.size hbw.out.low.size) HLT.out.1 HLT.out.2.1 HLT.out.2.2)).trans hk)
            clear hJ' hk
            gi_wp2
            go_roundw
            case rel =>
              refine ⟨pre ++ [⟨q, r1, .slice A1 r2.length c1, .slice A2 r3.length c2, .slice A3 r4.length c3, r2, r3, r4, r5⟩], rest2, r5, m, rfl, Lib.hid ?_, HR2, HJ1, HK⟩
              rw [← hrow.out, ← HX.out, List.map_append, List.append_assoc]
              rfl
            case measure =>
              rw [show intOf (.int .i64 r5) = r5 from rfl, show intOf (.int .i64 q) = q from rfl, allM_eq HR2.out, allM_eq HQQ.out, ← HX.out]
              exact Nat.lt_succ_self _
          · have HJ1 := Lib.hid hJx'
            clear hJx'
            gi_wp2
            refine bodyPost_ret (results_none rfl _ _ _) rfl ?_
            refine ⟨⟨_, rfl⟩, .inr ⟨pre ++ [⟨q, r1, .slice A1 r2.length c1, .slice A2 r3.length c2, .slice A3 r4.length c3, r2, r3, r4, r5⟩], ⟨rest2, ?_⟩, HJ1.out⟩⟩
            rw [← hrow.out, ← HX.out, List.map_append, List.append_assoc]
            rfl
end
set_option maxHeartbeats 1600000 in
theorem scanAll_calls (A : Option Addr) (c : Nat) (l : List Int) (frm lim : Int) (w : World) :
    Calls Try.prog 18 #[.slice A l.length c, .int .i64 frm, .int .i64 lim] w fun e w' => ∃ bb bf bt : Nat, e = .returned (.func (.func 31) #[] #[.pointer (some ⟨bf, 0, none⟩), .pointer (some ⟨bt, 0, none⟩), .pointer (some ⟨bb, 0, none⟩)]) ∧
      w'.heap[bb]? = some (.cells #[.slice A l.length c] 22 (0, 0)) ∧ w'.heap[bf]? = some (.cells #[.int .i64 frm] 3 (0, 0)) ∧ w'.heap[bt]? = some (.cells #[.int .i64 lim] 3 (0, 0)) ∧ (w.heap.size ≤ bb ∧ w.heap.size ≤ bf ∧ w.heap.size ≤ bt) ∧ Below w.heap.size w w' := by
  have HB := Lib.hid (Below.refl w.heap.size w)
  go_enter Try.func18, Try.ntmps18
  go_wp2_with (first
    | ((with_reducible refine gate_dst (N := 3) rfl ?_); refine box_event ?hg (N := 3) ?hd (cs := #[.slice A l.length c]) (t := 22) ?hr ?_; (case hd => rfl); (case hg => rfl); (case hr => first | (go_simp; done) | (go_simp; rfl)); intro g3 hg w3 hbox hb; have BK3 := Lib.hid hbox; have L3 := Lib.hid (show w.heap.size ≤ g3 by rw [hg]; exact HB.out.size); have HB3 := Lib.hid (HB.out.trans hb); clear hg hbox hb)
    | ((with_reducible refine gate_dst (N := 4) rfl ?_); refine box_event ?hg (N := 4) ?hd (cs := #[.int .i64 frm]) (t := 3) ?hr ?_; (case hd => rfl); (case hg => rfl); (case hr => first | (go_simp; done) | (go_simp; rfl)); intro g4 hg w4 hbox hb; have BK4 := Lib.hid hbox; have L4 := Lib.hid (show w.heap.size ≤ g4 by rw [hg]; exact HB3.out.size); have BK3b := Lib.hid (blk_below BK3.out hb); have HB4 := Lib.hid (HB3.out.trans (hb.mono HB3.out.size)); clear hg hbox hb)
    | ((with_reducible refine gate_dst (N := 5) rfl ?_); refine box_event ?hg (N := 5) ?hd (cs := #[.int .i64 lim]) (t := 3) ?hr ?_; (case hd => rfl); (case hg => rfl); (case hr => first | (go_simp; done) | (go_simp; rfl)); intro g5 hg w5 hbox hb; have BK5 := Lib.hid hbox; have L5 := Lib.hid (show w.heap.size ≤ g5 by rw [hg]; exact HB4.out.size); have BK3c := Lib.hid (blk_below BK3b.out hb); have BK4b := Lib.hid (blk_below BK4.out hb); have HB5 := Lib.hid (HB4.out.trans (hb.mono HB4.out.size)); clear hg hbox hb))
  go_ret
  exact ⟨g3, g4, g5, rfl, BK3c.out, BK4b.out, BK5.out, ⟨L3.out, L4.out, L5.out⟩, HB5.out⟩

/-! ### obj_Size: function 19 -/
def obj_Size.f (k : Nat) (a0_0 : Int) (l0_1 : List Int) (l0_2 : List Int) (l0_3 : List Int) : Option (Int) := (obj_Front.f k a0_0).bind fun t113 => ((le_Align.f (wrap64 ((wrap64 (t113 + (l0_2.length : Int))) + (wrap64 (8 * (l0_3.length : Int)))))).bind fun t114 => (some t114))
theorem obj_Size.mono : ∀ a0 a1 a2 a3 k, LeO (obj_Size.f k a0 a1 a2 a3) (obj_Size.f (k + 1) a0 a1 a2 a3) := by
  intro a0 a1 a2 a3 k
  unfold obj_Size.f
  repeat' first
      | (with_reducible exact obj_Front.mono _ _)
      | (with_reducible exact LeO.refl _)
      | (with_reducible exact LeO.none _)
      | (with_reducible refine LeO.ite ?_ ?_)
      | (with_reducible refine LeO.bind ?_ (fun _ => ?_))
      | exact obj_Front.mono _ _
      | exact LeO.none _
      | refine LeO.ite ?_ ?_
      | refine LeO.bind ?_ (fun _ => ?_)
set_option maxHeartbeats 8000000 in
set_option maxRecDepth 100000 in
theorem obj_Size.calls (k : Nat) (a0_0 : Int) (A0_1 : Option Addr) (c0_1 : Nat) (l0_1 : List Int) (A0_2 : Option Addr) (c0_2 : Nat) (l0_2 : List Int) (A0_3 : Option Addr) (c0_3 : Nat) (l0_3 : List Int) (r : Int) (w : World) (hr0_1 : Kd.C (Kd.int .u64) w A0_1 l0_1.length l0_1) (hc0_1 : l0_1.length ≤ c0_1) (hr0_2 : Kd.C (Kd.int .u8) w A0_2 l0_2.length l0_2) (hc0_2 : l0_2.length ≤ c0_2) (hr0_3 : Kd.C (Kd.int .u64) w A0_3 l0_3.length l0_3) (hc0_3 : l0_3.length ≤ c0_3) (h : obj_Size.f k a0_0 l0_1 l0_2 l0_3 = some r) :
    Calls Try.prog 19 #[.agg #[.int .i64 a0_0, .slice A0_1 l0_1.length c0_1, .slice A0_2 l0_2.length c0_2, .slice A0_3 l0_3.length c0_3]] w fun e w' => e = .returned (.int .i64 r) ∧ Below w.heap.size w w' := by
  have hu42 := Try.underlying42
  have HR0_1 := Aside0.mk hr0_1
  have HC0_1 := Aside0.mk hc0_1
  clear hr0_1 hc0_1
  have HR0_2 := Aside0.mk hr0_2
  have HC0_2 := Aside0.mk hc0_2
  clear hr0_2 hc0_2
  have HR0_3 := Aside0.mk hr0_3
  have HC0_3 := Aside0.mk hc0_3
  clear hr0_3 hc0_3
  have HB := Aside0.mk (Below.refl w.heap.size w)
  have H : ((obj_Front.f k a0_0).bind fun t113 => ((le_Align.f (wrap64 ((wrap64 (t113 + (l0_2.length : Int))) + (wrap64 (8 * (l0_3.length : Int)))))).bind fun t114 => (some t114))) = some r := h
  clear h
  replace H := Option.bind_eq_some_iff.mp H
  obtain ⟨t113, A20, H⟩ := H
  replace H : ((le_Align.f (wrap64 ((wrap64 (t113 + (l0_2.length : Int))) + (wrap64 (8 * (l0_3.length : Int)))))).bind fun t114 => (some t114)) = some r := H
  have A2 := Aside0.mk A20
  clear A20
  replace H := Option.bind_eq_some_iff.mp H
  obtain ⟨t114, A30, H⟩ := H
  replace H : (some t114) = some r := H
  have A3 := Aside0.mk A30
  clear A30
  obtain rfl := Option.some.inj H
  go_enter Try.func19, Try.ntmps19
  go_wp2_with (first | ((with_reducible refine gate_dst (N := 1) rfl ?_); refine box_event ?hg (N := 1) ?hd (cs := #[.int .i64 a0_0, .slice A0_1 l0_1.length c0_1, .slice A0_2 l0_2.length c0_2, .slice A0_3 l0_3.length c0_3]) (t := 42) ?hr ?_; (case hd => rfl); (case hg => rfl); (case hr => first | (go_simp; done) | (go_simp; rfl)); intro gb112 hg w4 hbox hb; have n0_ := Aside0.mk (below_step (by repeat (first | (with_reducible first | exact HB.out | apply below_alloc | apply pw_below_drewN | apply below_drew1) | exact HB.out)) hb); have n1_ := Aside0.mk (hbox); have n2_ := Aside0.mk ((by rw [hg]; exact (below_size (by repeat (first | (with_reducible first | exact HB.out | apply below_alloc | apply pw_below_drewN | apply below_drew1) | exact HB.out))) : w.heap.size ≤ gb112)); have n3_ := Aside0.mk ((by rw [hg]; exact (below_size (by repeat (first | (with_reducible first | exact HB.out | apply below_alloc | apply pw_below_drewN | apply below_drew1) | exact HB.out))) : w.heap.size ≤ gb112)); clear HB; have HB := n0_; have BK112 := n1_; have GW112 := n2_; have GE112 := n3_; clear n0_ n1_ n2_ n3_; clear hb hbox hg; have hcz5_0 : w4.cell? ⟨gb112, 0, none⟩ = some (.int .i64 a0_0) := (blk_cell BK112.out 0).trans rfl; have hcz5_1 : w4.cell? ⟨gb112, 1, none⟩ = some (.slice A0_1 l0_1.length c0_1) := (blk_cell BK112.out 1).trans rfl; have hcz5_2 : w4.cell? ⟨gb112, 2, none⟩ = some (.slice A0_2 l0_2.length c0_2) := (blk_cell BK112.out 2).trans rfl; have hcz5_3 : w4.cell? ⟨gb112, 3, none⟩ = some (.slice A0_3 l0_3.length c0_3) := (blk_cell BK112.out 3).trans rfl; have hfz5_0 := blk_frozen BK112.out 0; have hfz5_1 := blk_frozen BK112.out 1; have hfz5_2 := blk_frozen BK112.out 2; have hfz5_3 := blk_frozen BK112.out 3) | (go_at_call 27; (with_reducible refine (obj_Front.calls k a0_0 t113 _ A2.out).mono ?_); rintro e w' ⟨rfl, ⟨nd, rfl⟩⟩; (try first | exact ⟨rfl, _, World.drewN_drewN _ _ _⟩ | exact ⟨rfl, _, Eq.trans (World.drewN_drewN _ _ _) (congrArg (World.drewN _) (Nat.add_assoc _ _ _))⟩)) | (go_at_call 32; (with_reducible refine (le_Align.calls (wrap64 ((wrap64 (t113 + (l0_2.length : Int))) + (wrap64 (8 * (l0_3.length : Int))))) t114 _ A3.out).mono ?_); rintro e w' ⟨rfl, ⟨nd, rfl⟩⟩; (try first | exact ⟨rfl, _, World.drewN_drewN _ _ _⟩ | exact ⟨rfl, _, Eq.trans (World.drewN_drewN _ _ _) (congrArg (World.drewN _) (Nat.add_assoc _ _ _))⟩)))
  repeat (go_quiet (first | ((with_reducible refine gate_dst (N := 1) rfl ?_); refine box_event ?hg (N := 1) ?hd (cs := #[.int .i64 a0_0, .slice A0_1 l0_1.length c0_1, .slice A0_2 l0_2.length c0_2, .slice A0_3 l0_3.length c0_3]) (t := 42) ?hr ?_; (case hd => rfl); (case hg => rfl); (case hr => first | (go_simp; done) | (go_simp; rfl)); intro gb112 hg w4 hbox hb; have n0_ := Aside0.mk (below_step (by repeat (first | (with_reducible first | exact HB.out | apply below_alloc | apply pw_below_drewN | apply below_drew1) | exact HB.out)) hb); have n1_ := Aside0.mk (hbox); have n2_ := Aside0.mk ((by rw [hg]; exact (below_size (by repeat (first | (with_reducible first | exact HB.out | apply below_alloc | apply pw_below_drewN | apply below_drew1) | exact HB.out))) : w.heap.size ≤ gb112)); have n3_ := Aside0.mk ((by rw [hg]; exact (below_size (by repeat (first | (with_reducible first | exact HB.out | apply below_alloc | apply pw_below_drewN | apply below_drew1) | exact HB.out))) : w.heap.size ≤ gb112)); clear HB; have HB := n0_; have BK112 := n1_; have GW112 := n2_; have GE112 := n3_; clear n0_ n1_ n2_ n3_; clear hb hbox hg; have hcz5_0 : w4.cell? ⟨gb112, 0, none⟩ = some (.int .i64 a0_0) := (blk_cell BK112.out 0).trans rfl; have hcz5_1 : w4.cell? ⟨gb112, 1, none⟩ = some (.slice A0_1 l0_1.length c0_1) := (blk_cell BK112.out 1).trans rfl; have hcz5_2 : w4.cell? ⟨gb112, 2, none⟩ = some (.slice A0_2 l0_2.length c0_2) := (blk_cell BK112.out 2).trans rfl; have hcz5_3 : w4.cell? ⟨gb112, 3, none⟩ = some (.slice A0_3 l0_3.length c0_3) := (blk_cell BK112.out 3).trans rfl; have hfz5_0 := blk_frozen BK112.out 0; have hfz5_1 := blk_frozen BK112.out 1; have hfz5_2 := blk_frozen BK112.out 2; have hfz5_3 := blk_frozen BK112.out 3) | (go_at_call 27; (with_reducible refine (obj_Front.calls k a0_0 t113 _ A2.out).mono ?_); rintro e w' ⟨rfl, ⟨nd, rfl⟩⟩; (try first | exact ⟨rfl, _, World.drewN_drewN _ _ _⟩ | exact ⟨rfl, _, Eq.trans (World.drewN_drewN _ _ _) (congrArg (World.drewN _) (Nat.add_assoc _ _ _))⟩)) | (go_at_call 32; (with_reducible refine (le_Align.calls (wrap64 ((wrap64 (t113 + (l0_2.length : Int))) + (wrap64 (8 * (l0_3.length : Int))))) t114 _ A3.out).mono ?_); rintro e w' ⟨rfl, ⟨nd, rfl⟩⟩; (try first | exact ⟨rfl, _, World.drewN_drewN _ _ _⟩ | exact ⟨rfl, _, Eq.trans (World.drewN_drewN _ _ _) (congrArg (World.drewN _) (Nat.add_assoc _ _ _))⟩))); try go_wp2_with (first | ((with_reducible refine gate_dst (N := 1) rfl ?_); refine box_event ?hg (N := 1) ?hd (cs := #[.int .i64 a0_0, .slice A0_1 l0_1.length c0_1, .slice A0_2 l0_2.length c0_2, .slice A0_3 l0_3.length c0_3]) (t := 42) ?hr ?_; (case hd => rfl); (case hg => rfl); (case hr => first | (go_simp; done) | (go_simp; rfl)); intro gb112 hg w4 hbox hb; have n0_ := Aside0.mk (below_step (by repeat (first | (with_reducible first | exact HB.out | apply below_alloc | apply pw_below_drewN | apply below_drew1) | exact HB.out)) hb); have n1_ := Aside0.mk (hbox); have n2_ := Aside0.mk ((by rw [hg]; exact (below_size (by repeat (first | (with_reducible first | exact HB.out | apply below_alloc | apply pw_below_drewN | apply below_drew1) | exact HB.out))) : w.heap.size ≤ gb112)); have n3_ := Aside0.mk ((by rw [hg]; exact (below_size (by repeat (first | (with_reducible first | exact HB.out | apply below_alloc | apply pw_below_drewN | apply below_drew1) | exact HB.out))) : w.heap.size ≤ gb112)); clear HB; have HB := n0_; have BK112 := n1_; have GW112 := n2_; have GE112 := n3_; clear n0_ n1_ n2_ n3_; clear hb hbox hg; have hcz5_0 : w4.cell? ⟨gb112, 0, none⟩ = some (.int .i64 a0_0) := (blk_cell BK112.out 0).trans rfl; have hcz5_1 : w4.cell? ⟨gb112, 1, none⟩ = some (.slice A0_1 l0_1.length c0_1) := (blk_cell BK112.out 1).trans rfl; have hcz5_2 : w4.cell? ⟨gb112, 2, none⟩ = some (.slice A0_2 l0_2.length c0_2) := (blk_cell BK112.out 2).trans rfl; have hcz5_3 : w4.cell? ⟨gb112, 3, none⟩ = some (.slice A0_3 l0_3.length c0_3) := (blk_cell BK112.out 3).trans rfl; have hfz5_0 := blk_frozen BK112.out 0; have hfz5_1 := blk_frozen BK112.out 1; have hfz5_2 := blk_frozen BK112.out 2; have hfz5_3 := blk_frozen BK112.out 3) | (go_at_call 27; (with_reducible refine (obj_Front.calls k a0_0 t113 _ A2.out).mono ?_); rintro e w' ⟨rfl, ⟨nd, rfl⟩⟩; (try first | exact ⟨rfl, _, World.drewN_drewN _ _ _⟩ | exact ⟨rfl, _, Eq.trans (World.drewN_drewN _ _ _) (congrArg (World.drewN _) (Nat.add_assoc _ _ _))⟩)) | (go_at_call 32; (with_reducible refine (le_Align.calls (wrap64 ((wrap64 (t113 + (l0_2.length : Int))) + (wrap64 (8 * (l0_3.length : Int))))) t114 _ A3.out).mono ?_); rintro e w' ⟨rfl, ⟨nd, rfl⟩⟩; (try first | exact ⟨rfl, _, World.drewN_drewN _ _ _⟩ | exact ⟨rfl, _, Eq.trans (World.drewN_drewN _ _ _) (congrArg (World.drewN _) (Nat.add_assoc _ _ _))⟩))))
  go_ret
  exact ⟨by first | rfl | (simp [errW_none, errW_some] <;> rfl) | (simp [*, errW_none, errW_some] <;> rfl), by repeat (first | (with_reducible first | exact HB.out | apply below_alloc | apply pw_below_drewN | apply below_drew1 | refine below_set ?_ GE112.out) | exact HB.out)⟩

end Go.Proofs.Ytldoaommikclbaa.PScanObjects
