-- LAID BY gprint.py: a scratch copy of the print, with functions that this session proved by hand among the printed ones
import Derived.Test.YtbbegchdlkmebaaDoorPExportBackx0
import Derived.Test.YtbbegchdlkmebaaDoorPExportBackx2
import Derived.Test.YtbbegchdlkmebaaDoorPExportBackx6
import Derived.Test.YtbbegchdlkmebaaDoorPExportBackx7
import Derived.Test.YtbbegchdlkmebaaDoorPExportBackx8
import Derived.Test.YtbbegchdlkmebaaDoorPExportBackx9
namespace Go.Proofs.YtbbegchdlkmebaaDoor.PExportBack
open Go.RowKit Go.Proofs.YtbbegchdlkmebaaDoorW.PrintWords Go.Proofs.YtbbegchdlkmebaaDoorW.PrintLast Go.Proofs.YtbbegchdlkmebaaDoor.Conv Go.Proofs.YtbbegchdlkmebaaDoor.Bld Go.Proofs.YtbbegchdlkmebaaDoorW.PrintMore
attribute [local go_sem] max2_int min2_int max_two min_two max_three min_three max_four min_four gtr_less   -- for this text's walks alone
set_option linter.unusedVariables false
set_option linter.unusedSimpArgs false

-- GIVEN rounds=1 making=1 needs=logbook/export.line,logbook/export.field,logbook/export.tell,logbook/cursor.Parse,logbook/item.Name,strings.HasPrefix
/-! ### export.Read: by hand: a cursor and a text in memory, written by tell; items in a row of their own -/
abbrev rdOut : Type := Int × Int × Int × Int × Int × Int × List ByteArray × ByteArray × Bool
def rdZ : rdOut := (0, 0, 0, 0, 0, 0, [], ⟨#[]⟩, false)
def rdGo : Nat → Nat → ByteArray → Int → Int → Int → Int → Int → ByteArray → List ByteArray → Option rdOut
  | 0, _, _, _, _, _, _, _, _, _ => none
  | k + 1, i, s, c0, c1, c2, c3, c4, tx, items => (export_line.f s).bind fun l =>
    if l.2.2 = true ∧ (l.1.toList == ([] : List UInt8)) = true ∧ 6 < i then
      (cursor_Parse.f k tx).bind fun x => if x.2.2.2.2.2.2 = 0 ∧ x.1 = c0 ∧ x.2.1 = c1 ∧ x.2.2.1 = c2 ∧ x.2.2.2.1 = c3 ∧ x.2.2.2.2.1 = c4 then some (c0, c1, c2, c3, c4, x.2.2.2.2.2.1, items, l.2.1, true) else some rdZ
    else (export_field.f k s).bind fun q =>
      if q.2.2.2 = true then
        if 6 ≤ i then (item_Name.f q.1).bind fun nm => (strings_HasPrefix.f q.1 (⟨#[95, 95]⟩ : ByteArray)).bind fun hp =>
          if q.1.size + q.2.1.size ≤ 1000000000 then (if nm = true ∧ hp = false ∧ items.length < 64 ∧ q.1.size + 1 + q.2.1.size ≤ 1024 then rdGo k (i + 1) q.2.2.1 c0 c1 c2 c3 c4 tx (items ++ [(q.1 ++ (⟨#[61]⟩ : ByteArray)) ++ q.2.1]) else some rdZ) else none
        else if (q.1.toList == (tellKeys.getD i ⟨#[]⟩).toList) = true then
          if i = 0 then rdGo k 1 q.2.2.1 c0 c1 c2 c3 c4 q.2.1 items
          else (tellV i q.2.1).bind fun n => if n.2 = true then rdGo k (i + 1) q.2.2.1 (if i = 5 then n.1 else c0) (if i = 4 then n.1 else c1) (if i = 3 then n.1 else c2) (if i = 2 then n.1 else c3) (if i = 1 then n.1 else c4) tx items else some rdZ
        else some rdZ
      else some rdZ
def export_Read.f (k : Nat) (a0 : ByteArray) : Option rdOut := rdGo k 0 a0 0 0 0 0 0 ⟨#[]⟩ []
theorem rdGo_mono : ∀ k i s c0 c1 c2 c3 c4 tx items, LeO (rdGo k i s c0 c1 c2 c3 c4 tx items) (rdGo (k + 1) i s c0 c1 c2 c3 c4 tx items)
  | 0, _, _, _, _, _, _, _, _, _ => fun r h => by simp [rdGo] at h
  | k + 1, i, s, c0, c1, c2, c3, c4, tx, items => by
    unfold rdGo
    repeat' first
      | (with_reducible exact rdGo_mono _ _ _ _ _ _ _ _ _ _)
      | (with_reducible exact cursor_Parse.mono _ _)
      | (with_reducible exact export_field.mono _ _)
      | (with_reducible exact LeO.refl _)
      | (with_reducible refine LeO.ite ?_ ?_)
      | (with_reducible refine LeO.bind ?_ (fun _ => ?_))
theorem export_Read.mono : ∀ a0 k, LeO (export_Read.f k a0) (export_Read.f (k + 1) a0) := fun a0 k => rdGo_mono k 0 a0 0 0 0 0 0 ⟨#[]⟩ []
theorem rdEq (d : Nat) (w : World) (x0 x1 x2 x3 x4 x5 y0 y1 y2 y3 y4 y5 : Int) :
    (Op.equalIn (d + 2) 30 (.agg #[.int .u64 x0, .int .u64 x1, .int .u64 x2, .int .u64 x3, .int .u64 x4, .int .u64 x5]) (.agg #[.int .u64 y0, .int .u64 y1, .int .u64 y2, .int .u64 y3, .int .u64 y4, .int .u64 y5])).run Tryd.prog w = .ok (x0 == y0 && (x1 == y1 && (x2 == y2 && (x3 == y3 && (x4 == y4 && (x5 == y5)))))) w := by
  refine eqA_of Tryd.underlying30 (by kernel_rfl) ?_
  refine eqf_cons (by rfl) (by go_simp; rfl) (by go_simp; rfl) (by go_simp) ?_
  refine eqf_cons (by rfl) (by go_simp; rfl) (by go_simp; rfl) (by go_simp) ?_
  refine eqf_cons (by rfl) (by go_simp; rfl) (by go_simp; rfl) (by go_simp) ?_
  refine eqf_cons (by rfl) (by go_simp; rfl) (by go_simp; rfl) (by go_simp) ?_
  refine eqf_cons (by rfl) (by go_simp; rfl) (by go_simp; rfl) (by go_simp) ?_
  exact eqf_last (by rfl) (by go_simp; rfl) (by go_simp; rfl) (by go_simp)
abbrev rdC (x0 x1 x2 x3 x4 x5 : Int) : Array Value := #[.int .u64 x0, .int .u64 x1, .int .u64 x2, .int .u64 x3, .int .u64 x4, .int .u64 x5]
theorem rd_results {P : Program} {fn : Func} {p u v x : Tmp} {ty : TypeId} (h : fn.results = #[.cell p ty, .tmp u, .tmp v, .tmp x]) (tmps : Array Value) (w : World) (g : Nat) (t : TypeId) (cs : Array Value) (fr : Nat × Nat) (d : TypeDesc)
    (hp : tmps.getD p undef = .pointer (some ⟨g, 0, none⟩)) (hg : w.heap[g]? = some (.cells cs t fr))
    (hu : P.underlying ty = some d) (hd : (match d with | .struct _ | .array _ _ => true | _ => false) = true) (hi : (P.info? ty).map (·.size) = some cs.size) :
    (results fn tmps).run P w = .ok (.tuple #[.agg cs, tmps.getD u undef, tmps.getD v undef, tmps.getD x undef]) w := by
  have hp' : tmps[p]?.getD undef = .pointer (some ⟨g, 0, none⟩) := by simpa using hp
  simp [results, h, hp', asAddr, run_loadVar_row w g t ty cs fr d hg hu hd hi]
structure RdS (w wr : World) (tx : ByteArray) (c0 c1 c2 c3 c4 c5 : Int) (v : Value) (items : List ByteArray) : Prop where
  b0 : wr.heap[w.heap.size]? = some (.cells (rdC 0 0 0 0 0 0) 30 (0, 0))
  b1 : wr.heap[w.heap.size + 1]? = some (.cells (rdC c0 c1 c2 c3 c4 c5) 30 (0, 0))
  b2 : wr.heap[w.heap.size + 2]? = some (.cells #[.string tx] 9 (0, 0))
  own : Kd.R Kd.string 9 wr (w.heap.size + 3) (fun j => w.heap.size + 3 ≤ j) v items
  below : Below w.heap.size w wr
  size : w.heap.size + 3 ≤ wr.heap.size
theorem RdS.step {w wr w1 : World} {tx : ByteArray} {c0 c1 c2 c3 c4 c5 : Int} {v : Value} {items : List ByteArray} (h : RdS w wr tx c0 c1 c2 c3 c4 c5 v items) (hb : Below wr.heap.size wr w1) : RdS w w1 tx c0 c1 c2 c3 c4 c5 v items :=
  ⟨blk_below h.b0 hb, blk_below h.b1 hb, blk_below h.b2 hb, Kd.R_below h.own hb, h.below.trans (hb.mono h.below.size), Nat.le_trans h.size hb.size⟩
theorem RdS.drewN {w wr : World} {tx : ByteArray} {c0 c1 c2 c3 c4 c5 : Int} {v : Value} {items : List ByteArray} (h : RdS w wr tx c0 c1 c2 c3 c4 c5 v items) (n : Nat) : RdS w (wr.drewN n) tx c0 c1 c2 c3 c4 c5 v items :=
  h.step (pw_below_drewN (Below.refl _ _) n)
theorem RdS.text {w wr : World} {tx : ByteArray} {c0 c1 c2 c3 c4 c5 : Int} {v : Value} {items : List ByteArray} (h : RdS w wr tx c0 c1 c2 c3 c4 c5 v items) (t : ByteArray) : RdS w (wr.setCell ⟨w.heap.size + 2, 0, none⟩ (.string t)) t c0 c1 c2 c3 c4 c5 v items :=
  ⟨blk_far h.b0 (by show w.heap.size ≠ w.heap.size + 2; omega) _, blk_far h.b1 (by show w.heap.size + 1 ≠ w.heap.size + 2; omega) _, blk_put h.b2 0 _ rfl, Kd.R_far h.own (fun j hj => by show j ≠ w.heap.size + 2; omega) _, h.below.setCell (by show w.heap.size ≤ w.heap.size + 2; omega) _, by
    have := h.size
    simp only [World.setCell]
    simpa using this⟩
theorem RdS.cell {w wr : World} {tx : ByteArray} {c0 c1 c2 c3 c4 c5 d0 d1 d2 d3 d4 d5 : Int} {v : Value} {items : List ByteArray} (h : RdS w wr tx c0 c1 c2 c3 c4 c5 v items) (j : Nat) (n : Int) (e : (rdC c0 c1 c2 c3 c4 c5).setIfInBounds j (.int .u64 n) = rdC d0 d1 d2 d3 d4 d5) : RdS w (wr.setCell ⟨w.heap.size + 1, j, none⟩ (.int .u64 n)) tx d0 d1 d2 d3 d4 d5 v items :=
  ⟨blk_far h.b0 (by show w.heap.size ≠ w.heap.size + 1; omega) _, blk_put h.b1 j _ e, blk_far h.b2 (by show w.heap.size + 2 ≠ w.heap.size + 1; omega) _, Kd.R_far h.own (fun j hj => by show j ≠ w.heap.size + 1; omega) _, h.below.setCell (by show w.heap.size ≤ w.heap.size + 1; omega) _, by
    have := h.size
    simp only [World.setCell]
    simpa using this⟩
theorem RdS.grow {w wr w1 : World} {tx : ByteArray} {c0 c1 c2 c3 c4 c5 : Int} {v v1 : Value} {items l : List ByteArray} (h : RdS w wr tx c0 c1 c2 c3 c4 c5 v items) (hR : Kd.R Kd.string 9 w1 (w.heap.size + 3) (fun j => w.heap.size + 3 ≤ j) v1 l) (hb : Below (w.heap.size + 3) wr w1) : RdS w w1 tx c0 c1 c2 c3 c4 c5 v1 l :=
  ⟨(hb.block _ (by omega)).trans h.b0, (hb.block _ (by omega)).trans h.b1, (hb.block _ (by omega)).trans h.b2, hR, h.below.trans (hb.mono (by omega)), Nat.le_trans h.size hb.size⟩
theorem RdS.first (w : World) : RdS w (((w.alloc (.cells (rdC 0 0 0 0 0 0) 30)).alloc (.cells (rdC 0 0 0 0 0 0) 30)).alloc (.cells #[.string ⟨#[]⟩] 9)) ⟨#[]⟩ 0 0 0 0 0 0 (.slice none 0 0) [] := by
  have s1 : (w.alloc (.cells (rdC 0 0 0 0 0 0) 30)).heap.size = w.heap.size + 1 := by simp
  have s2 : ((w.alloc (.cells (rdC 0 0 0 0 0 0) 30)).alloc (.cells (rdC 0 0 0 0 0 0) 30)).heap.size = w.heap.size + 2 := by simp
  refine ⟨blk_alloc (blk_alloc (blk_new w _) _) _, blk_alloc ?_ _, ?_, Kd.R_nil _ _ _ _ _, (((Below.refl _ _).alloc (Nat.le_refl _) _).alloc (by omega) _).alloc (by omega) _, by simp⟩
  · have z := blk_new (w.alloc (.cells (rdC 0 0 0 0 0 0) 30)) (.cells (rdC 0 0 0 0 0 0) 30)
    rw [s1] at z
    exact z
  · have z := blk_new ((w.alloc (.cells (rdC 0 0 0 0 0 0) 30)).alloc (.cells (rdC 0 0 0 0 0 0) 30)) (.cells #[.string ⟨#[]⟩] 9)
    rw [s2] at z
    exact z
theorem rd_info : (Tryd.prog.info? 9).map (fun i => (i.zero, i.size, i.bytes)) = some (some (.string ⟨#[]⟩), 1, 16) := by kernel_rfl
attribute [local go_sem high] rdEq
attribute [local go_sem high] rdEq
attribute [local go_sem high] rdEq
attribute [local go_sem high] rdEq
def rdT (l3 : Bool) (l1 : ByteArray) (i : Nat) : Bool := l3 && (l1.toList == ([] : List UInt8)) && decide (6 < i)
theorem rdT_yes {l3 : Bool} {l1 : ByteArray} {i : Nat} (h : rdT l3 l1 i = true) : l3 = true ∧ (l1.toList == ([] : List UInt8)) = true ∧ 6 < i := by
  unfold rdT at h
  rw [Bool.and_eq_true, Bool.and_eq_true] at h
  exact ⟨h.1.1, h.1.2, of_decide_eq_true h.2⟩
theorem rdT_of {l3 : Bool} {l1 : ByteArray} {i : Nat} (h : l3 = true ∧ (l1.toList == ([] : List UInt8)) = true ∧ 6 < i) : rdT l3 l1 i = true := by
  unfold rdT
  rw [Bool.and_eq_true, Bool.and_eq_true]
  exact ⟨⟨h.1, h.2.1⟩, decide_eq_true h.2.2⟩
theorem rdT_no {l3 : Bool} {l1 : ByteArray} {i : Nat} (h : ¬ (l3 = true ∧ (l1.toList == ([] : List UInt8)) = true ∧ 6 < i)) : rdT l3 l1 i = false := by
  cases hq : rdT l3 l1 i with
  | false => rfl
  | true => exact absurd (rdT_yes hq) h
set_option maxHeartbeats 12800000 in
set_option maxRecDepth 100000 in
theorem export_Read.calls (k : Nat) (a0 : ByteArray) (r1 r2 r3 r4 r5 r6 : Int) (r7 : List ByteArray) (r8 : ByteArray) (r9 : Bool) (w : World) (h : export_Read.f k a0 = some (r1, r2, r3, r4, r5, r6, r7, r8, r9)) :
    Calls Tryd.prog 13 #[.string a0] w fun e w' => ∃ v0_ : Value, e = .returned (.tuple #[.agg #[.int .u64 r1, .int .u64 r2, .int .u64 r3, .int .u64 r4, .int .u64 r5, .int .u64 r6], v0_, .string r8, .bool r9]) ∧ Kd.R Kd.string 9 w' w.heap.size (fun _ => True) v0_ r7 ∧ Below w.heap.size w w' := by
  have HH := Lib.hid (show rdGo k 0 a0 0 0 0 0 0 ⟨#[]⟩ [] = some (r1, r2, r3, r4, r5, r6, r7, r8, r9) from h)
  clear h
  have hu := Tryd.underlying30
  have HS0 := Lib.hid (RdS.first w)
  go_enter Tryd.func13, Tryd.ntmps13
  go_wp2
  go_loopg [0, 8, 9] k (fun kq v0 v8 v9 wr => ∃ (i : Nat) (s tx : ByteArray) (c0 c1 c2 c3 c4 : Int) (items : List ByteArray), v0 = .string s ∧ v9 = .int .i64 (i : Int) ∧ i ≤ items.length + 6 ∧ items.length ≤ 64 ∧ Hid (rdGo kq i s c0 c1 c2 c3 c4 tx items = some (r1, r2, r3, r4, r5, r6, r7, r8, r9)) ∧ Hid (kq ≤ k) ∧ Hid (RdS w wr tx c0 c1 c2 c3 c4 0 v8 items))
  case atStart => exact ⟨0, a0, ⟨#[]⟩, 0, 0, 0, 0, 0, [], rfl, rfl, by omega, by simp, HH, Lib.hid (Nat.le_refl _), HS0⟩
  case round =>
    clear HH HS0
    obtain ⟨i, s, tx, c0, c1, c2, c3, c4, items, rfl, rfl, hil, hin, HA, HK, HS⟩ := hrel
    cases gk with
    | zero => exact absurd HA.out (by simp [rdGo])
    | succ kj =>
      have h := HA.out
      clear HA
      rw [rdGo] at h
      obtain ⟨⟨l1, l2, l3⟩, hl, h⟩ := Option.bind_eq_some_iff.1 h
      dsimp only at h
      have HL := Lib.hid hl
      have HH := Lib.hid h
      clear hl h
      obtain ⟨A8, n8, rfl⟩ := Kd.R_slice HS.out.own
      go_upto_region 7 with (first | (go_at_call 32; (with_reducible refine (export_line.calls s l1 l2 l3 _ HL.out).mono ?_); rintro e w3 ⟨rfl, ⟨nd, rfl⟩⟩; have HS3 := Lib.hid (HS.out.drewN nd); have kT := blk_cell HS3.out.b2 0; simp at kT))
      clear HS
      go_cut [35] (fun v35 wc => v35 = .bool (rdT l3 l1 i) ∧ Hid (RdS w wc tx c0 c1 c2 c3 c4 0 (.slice A8 items.length n8) items))
      case first =>
        by_cases ht : l3 = true ∧ (l1.toList == ([] : List UInt8)) = true ∧ 6 < i
        · obtain ⟨rfl, ht1, ht2⟩ := ht
          have ht3 : decide ((6 : Int) < (i : Int)) = true := decide_eq_true (by omega)
          have HQ := Lib.hid (rdT_of ⟨rfl, ht1, ht2⟩)
          clear ht2
          go_wp2
          go_meet
          case rel => exact ⟨by first | (rw [HQ.out]; done) | simp [HQ.out], HS3⟩
        · have hn : l3 = false ∨ (l3 = true ∧ ((l1.toList == ([] : List UInt8)) = false ∨ ((l1.toList == ([] : List UInt8)) = true ∧ decide ((6 : Int) < (i : Int)) = false))) := by
            cases l3 with
            | false => exact .inl rfl
            | true =>
              cases hq : (l1.toList == ([] : List UInt8)) with
              | false => exact .inr ⟨rfl, .inl rfl⟩
              | true => exact .inr ⟨rfl, .inr ⟨rfl, decide_eq_false (fun hc => ht ⟨rfl, hq, by omega⟩)⟩⟩
          have HQ := Lib.hid (rdT_no ht)
          clear ht
          rcases hn with rfl | ⟨rfl, hn1 | ⟨hn1, hn2⟩⟩
          all_goals
            go_wp2
            go_meet
            case rel => exact ⟨by first | (rw [HQ.out]; done) | simp [HQ.out], HS3⟩
      case rest =>
        clear HS3
        obtain ⟨rfl, HS⟩ := hcut
        obtain ⟨b, hb⟩ : ∃ b, rdT l3 l1 i = b := ⟨_, rfl⟩
        rw [hb]
        have HB := Lib.hid hb
        clear hb
        go_upto_if 35 with (fail)
        go_cut [9] (fun v9 wc => v9 = .int .i64 (i : Int) ∧ Hid (rdT l3 l1 i = false) ∧ Hid (RdS w wc tx c0 c1 c2 c3 c4 0 (.slice A8 items.length n8) items))
        case first =>
          cases b with
          | false =>
            go_wp2
            go_meet
            case rel => exact ⟨rfl, HB, HS⟩
          | true =>
            have h := HH.out
            rw [if_pos (rdT_yes HB.out)] at h
            clear HH HB
            obtain ⟨⟨x1, x2, x3, x4, x5, x6, x7⟩, hx, h⟩ := Option.bind_eq_some_iff.1 h
            dsimp only at h
            have HX := Lib.hid hx
            clear hx
            have kT := blk_cell HS.out.b2 0
            simp at kT
            by_cases hq : x7 = 0 ∧ x1 = c0 ∧ x2 = c1 ∧ x3 = c2 ∧ x4 = c3 ∧ x5 = c4
            · rw [if_pos hq] at h
              obtain ⟨rfl, rfl, rfl, rfl, rfl, rfl⟩ := hq
              simp only [Option.some.injEq, Prod.mk.injEq] at h
              obtain ⟨rfl, rfl, rfl, rfl, rfl, rfl, rfl, rfl, rfl⟩ := h
              go_wp2_with (first
                | (go_at_call 33; (with_reducible refine (cursor_Parse.calls kj tx x1 x2 x3 x4 x5 x6 0 _ HX.out).mono ?_); rintro e w5 ⟨rfl, hb5⟩; have HS5 := Lib.hid (HS.out.step hb5); have HN5 := Lib.hid (heap_alloc_new w5 (.cells (rdC 0 0 0 0 0 0) 30)); clear hb5)
                | (refine store_ev rfl 30 _ _ rfl rfl w5.heap.size (rdC x1 x2 x3 x4 x5 x6) rfl rfl 30 _ HN5.out (by kernel_rfl) (by kernel_rfl) (by kernel_rfl) ?_; intro w6 hb6 hp6; have HS6 := Lib.hid (HS5.out.step (hp6.below ((Below.refl _ _).alloc (Nat.le_refl _) _) (Nat.le_refl _))); have HX6 := Lib.hid hb6; have k13 := blk_cell hb6 5; simp at k13; have k5 := blk_cell HS6.out.b1 5; have f5 := blk_frozen HS6.out.b1 5; simp at k5; have HS7 := Lib.hid (HS6.out.cell 5 x6 (d0 := x1) (d1 := x2) (d2 := x3) (d3 := x4) (d4 := x5) (d5 := x6) rfl); have hx7 := blk_far hb6 (p := ⟨w.heap.size + 1, 5, none⟩) (by have := HS5.out.size; show w5.heap.size ≠ w.heap.size + 1; omega) (.int .u64 x6); have g0 := blk_cell hx7 0; have g1 := blk_cell hx7 1; have g2 := blk_cell hx7 2; have g3 := blk_cell hx7 3; have g4 := blk_cell hx7 4; have g5 := blk_cell hx7 5; simp at g0 g1 g2 g3 g4 g5; have q0 := blk_cell HS7.out.b1 0; have q1 := blk_cell HS7.out.b1 1; have q2 := blk_cell HS7.out.b1 2; have q3 := blk_cell HS7.out.b1 3; have q4 := blk_cell HS7.out.b1 4; have q5 := blk_cell HS7.out.b1 5; simp at q0 q1 q2 q3 q4 q5; clear hx7; clear hp6 hb6)
                | (refine store_ev rfl 30 _ _ rfl rfl w.heap.size (rdC x1 x2 x3 x4 x5 x6) rfl rfl 30 _ HS7.out.b0 (by kernel_rfl) (by kernel_rfl) (by kernel_rfl) ?_; intro w9 hb9 hp9; have HB9 := Lib.hid hb9; have HP9 := Lib.hid hp9; clear hb9 hp9))
              refine bodyPost_ret (rd_results rfl _ _ w.heap.size 30 (rdC x1 x2 x3 x4 x5 x6) (0, 0) _ rfl HB9.out hu rfl (by kernel_rfl)) rfl ?_
              exact ⟨_, rfl, Kd.R_mono (Kd.R_lower (Kd.R_step HS7.out.own (fun k hk _ => HP9.out.block k (by omega))) (by omega)) (fun _ _ => trivial), HP9.out.below HS7.out.below (Nat.le_refl _)⟩
            · rw [if_neg hq] at h
              simp only [rdZ, Option.some.injEq, Prod.mk.injEq] at h
              obtain ⟨rfl, rfl, rfl, rfl, rfl, rfl, rfl, rfl, rfl⟩ := h
              have hq' : x7 ≠ 0 ∨ x7 = 0 ∧ ((x1 == c0) = false ∨ x1 = c0 ∧ ((x2 == c1) = false ∨ x2 = c1 ∧ ((x3 == c2) = false ∨ x3 = c2 ∧ ((x4 == c3) = false ∨ x4 = c3 ∧ (x5 == c4) = false)))) := by
                simp only [beq_eq_false_iff_ne, ne_eq]
                omega
              clear hq
              have hq := hq'
              clear hq'
              rcases hq with h7 | ⟨rfl, h1 | ⟨rfl, h1 | ⟨rfl, h1 | ⟨rfl, h1 | ⟨rfl, h1⟩⟩⟩⟩⟩
              · have h7b : (x7 == 0) = false := beq_eq_false_iff_ne.mpr h7
                have h7c : (x7 != 0) = true := bne_iff_ne.mpr h7
                clear h7
                go_wp2_with (first
                  | (go_at_call 33; (with_reducible refine (cursor_Parse.calls kj tx x1 x2 x3 x4 x5 x6 x7 _ HX.out).mono ?_); rintro e w5 ⟨rfl, hb5⟩; have HS5 := Lib.hid (HS.out.step hb5); have HN5 := Lib.hid (heap_alloc_new w5 (.cells (rdC 0 0 0 0 0 0) 30)); clear hb5)
                  | (refine store_ev rfl 30 _ _ rfl rfl w5.heap.size (rdC x1 x2 x3 x4 x5 x6) rfl rfl 30 _ HN5.out (by kernel_rfl) (by kernel_rfl) (by kernel_rfl) ?_; intro w6 hb6 hp6; have HS6 := Lib.hid (HS5.out.step (hp6.below ((Below.refl _ _).alloc (Nat.le_refl _) _) (Nat.le_refl _))); have HX6 := Lib.hid hb6; have k13 := blk_cell hb6 5; simp at k13; have k5 := blk_cell HS6.out.b1 5; have f5 := blk_frozen HS6.out.b1 5; simp at k5; have HS7 := Lib.hid (HS6.out.cell 5 x6 (d0 := c0) (d1 := c1) (d2 := c2) (d3 := c3) (d4 := c4) (d5 := x6) rfl); have hx7 := blk_far hb6 (p := ⟨w.heap.size + 1, 5, none⟩) (by have := HS5.out.size; show w5.heap.size ≠ w.heap.size + 1; omega) (.int .u64 x6); have g0 := blk_cell hx7 0; have g1 := blk_cell hx7 1; have g2 := blk_cell hx7 2; have g3 := blk_cell hx7 3; have g4 := blk_cell hx7 4; have g5 := blk_cell hx7 5; simp at g0 g1 g2 g3 g4 g5; have q0 := blk_cell HS7.out.b1 0; have q1 := blk_cell HS7.out.b1 1; have q2 := blk_cell HS7.out.b1 2; have q3 := blk_cell HS7.out.b1 3; have q4 := blk_cell HS7.out.b1 4; have q5 := blk_cell HS7.out.b1 5; simp at q0 q1 q2 q3 q4 q5; clear hx7; clear hp6 hb6)
                  | (refine store_ev rfl 30 _ _ rfl rfl w.heap.size (rdC 0 0 0 0 0 0) rfl rfl 30 _ HS7.out.b0 (by kernel_rfl) (by kernel_rfl) (by kernel_rfl) ?_; intro w9 hb9 hp9; have HB9 := Lib.hid hb9; have HP9 := Lib.hid hp9; clear hb9 hp9))
                refine bodyPost_ret (rd_results rfl _ _ w.heap.size 30 (rdC 0 0 0 0 0 0) (0, 0) _ rfl HB9.out hu rfl (by kernel_rfl)) rfl ?_
                exact ⟨_, rfl, Kd.R_nil _ _ _ _ _, HP9.out.below HS7.out.below (Nat.le_refl _)⟩
              · go_wp2_with (first
                  | (go_at_call 33; (with_reducible refine (cursor_Parse.calls kj tx x1 x2 x3 x4 x5 x6 0 _ HX.out).mono ?_); rintro e w5 ⟨rfl, hb5⟩; have HS5 := Lib.hid (HS.out.step hb5); have HN5 := Lib.hid (heap_alloc_new w5 (.cells (rdC 0 0 0 0 0 0) 30)); clear hb5)
                  | (refine store_ev rfl 30 _ _ rfl rfl w5.heap.size (rdC x1 x2 x3 x4 x5 x6) rfl rfl 30 _ HN5.out (by kernel_rfl) (by kernel_rfl) (by kernel_rfl) ?_; intro w6 hb6 hp6; have HS6 := Lib.hid (HS5.out.step (hp6.below ((Below.refl _ _).alloc (Nat.le_refl _) _) (Nat.le_refl _))); have HX6 := Lib.hid hb6; have k13 := blk_cell hb6 5; simp at k13; have k5 := blk_cell HS6.out.b1 5; have f5 := blk_frozen HS6.out.b1 5; simp at k5; have HS7 := Lib.hid (HS6.out.cell 5 x6 (d0 := c0) (d1 := c1) (d2 := c2) (d3 := c3) (d4 := c4) (d5 := x6) rfl); have hx7 := blk_far hb6 (p := ⟨w.heap.size + 1, 5, none⟩) (by have := HS5.out.size; show w5.heap.size ≠ w.heap.size + 1; omega) (.int .u64 x6); have g0 := blk_cell hx7 0; have g1 := blk_cell hx7 1; have g2 := blk_cell hx7 2; have g3 := blk_cell hx7 3; have g4 := blk_cell hx7 4; have g5 := blk_cell hx7 5; simp at g0 g1 g2 g3 g4 g5; have q0 := blk_cell HS7.out.b1 0; have q1 := blk_cell HS7.out.b1 1; have q2 := blk_cell HS7.out.b1 2; have q3 := blk_cell HS7.out.b1 3; have q4 := blk_cell HS7.out.b1 4; have q5 := blk_cell HS7.out.b1 5; simp at q0 q1 q2 q3 q4 q5; clear hx7; clear hp6 hb6)
                  | (refine store_ev rfl 30 _ _ rfl rfl w.heap.size (rdC 0 0 0 0 0 0) rfl rfl 30 _ HS7.out.b0 (by kernel_rfl) (by kernel_rfl) (by kernel_rfl) ?_; intro w9 hb9 hp9; have HB9 := Lib.hid hb9; have HP9 := Lib.hid hp9; clear hb9 hp9))
                refine bodyPost_ret (rd_results rfl _ _ w.heap.size 30 (rdC 0 0 0 0 0 0) (0, 0) _ rfl HB9.out hu rfl (by kernel_rfl)) rfl ?_
                exact ⟨_, rfl, Kd.R_nil _ _ _ _ _, HP9.out.below HS7.out.below (Nat.le_refl _)⟩
              · go_wp2_with (first
                  | (go_at_call 33; (with_reducible refine (cursor_Parse.calls kj tx x1 x2 x3 x4 x5 x6 0 _ HX.out).mono ?_); rintro e w5 ⟨rfl, hb5⟩; have HS5 := Lib.hid (HS.out.step hb5); have HN5 := Lib.hid (heap_alloc_new w5 (.cells (rdC 0 0 0 0 0 0) 30)); clear hb5)
                  | (refine store_ev rfl 30 _ _ rfl rfl w5.heap.size (rdC x1 x2 x3 x4 x5 x6) rfl rfl 30 _ HN5.out (by kernel_rfl) (by kernel_rfl) (by kernel_rfl) ?_; intro w6 hb6 hp6; have HS6 := Lib.hid (HS5.out.step (hp6.below ((Below.refl _ _).alloc (Nat.le_refl _) _) (Nat.le_refl _))); have HX6 := Lib.hid hb6; have k13 := blk_cell hb6 5; simp at k13; have k5 := blk_cell HS6.out.b1 5; have f5 := blk_frozen HS6.out.b1 5; simp at k5; have HS7 := Lib.hid (HS6.out.cell 5 x6 (d0 := x1) (d1 := c1) (d2 := c2) (d3 := c3) (d4 := c4) (d5 := x6) rfl); have hx7 := blk_far hb6 (p := ⟨w.heap.size + 1, 5, none⟩) (by have := HS5.out.size; show w5.heap.size ≠ w.heap.size + 1; omega) (.int .u64 x6); have g0 := blk_cell hx7 0; have g1 := blk_cell hx7 1; have g2 := blk_cell hx7 2; have g3 := blk_cell hx7 3; have g4 := blk_cell hx7 4; have g5 := blk_cell hx7 5; simp at g0 g1 g2 g3 g4 g5; have q0 := blk_cell HS7.out.b1 0; have q1 := blk_cell HS7.out.b1 1; have q2 := blk_cell HS7.out.b1 2; have q3 := blk_cell HS7.out.b1 3; have q4 := blk_cell HS7.out.b1 4; have q5 := blk_cell HS7.out.b1 5; simp at q0 q1 q2 q3 q4 q5; clear hx7; clear hp6 hb6)
                  | (refine store_ev rfl 30 _ _ rfl rfl w.heap.size (rdC 0 0 0 0 0 0) rfl rfl 30 _ HS7.out.b0 (by kernel_rfl) (by kernel_rfl) (by kernel_rfl) ?_; intro w9 hb9 hp9; have HB9 := Lib.hid hb9; have HP9 := Lib.hid hp9; clear hb9 hp9))
                refine bodyPost_ret (rd_results rfl _ _ w.heap.size 30 (rdC 0 0 0 0 0 0) (0, 0) _ rfl HB9.out hu rfl (by kernel_rfl)) rfl ?_
                exact ⟨_, rfl, Kd.R_nil _ _ _ _ _, HP9.out.below HS7.out.below (Nat.le_refl _)⟩
              · go_wp2_with (first
                  | (go_at_call 33; (with_reducible refine (cursor_Parse.calls kj tx x1 x2 x3 x4 x5 x6 0 _ HX.out).mono ?_); rintro e w5 ⟨rfl, hb5⟩; have HS5 := Lib.hid (HS.out.step hb5); have HN5 := Lib.hid (heap_alloc_new w5 (.cells (rdC 0 0 0 0 0 0) 30)); clear hb5)
                  | (refine store_ev rfl 30 _ _ rfl rfl w5.heap.size (rdC x1 x2 x3 x4 x5 x6) rfl rfl 30 _ HN5.out (by kernel_rfl) (by kernel_rfl) (by kernel_rfl) ?_; intro w6 hb6 hp6; have HS6 := Lib.hid (HS5.out.step (hp6.below ((Below.refl _ _).alloc (Nat.le_refl _) _) (Nat.le_refl _))); have HX6 := Lib.hid hb6; have k13 := blk_cell hb6 5; simp at k13; have k5 := blk_cell HS6.out.b1 5; have f5 := blk_frozen HS6.out.b1 5; simp at k5; have HS7 := Lib.hid (HS6.out.cell 5 x6 (d0 := x1) (d1 := x2) (d2 := c2) (d3 := c3) (d4 := c4) (d5 := x6) rfl); have hx7 := blk_far hb6 (p := ⟨w.heap.size + 1, 5, none⟩) (by have := HS5.out.size; show w5.heap.size ≠ w.heap.size + 1; omega) (.int .u64 x6); have g0 := blk_cell hx7 0; have g1 := blk_cell hx7 1; have g2 := blk_cell hx7 2; have g3 := blk_cell hx7 3; have g4 := blk_cell hx7 4; have g5 := blk_cell hx7 5; simp at g0 g1 g2 g3 g4 g5; have q0 := blk_cell HS7.out.b1 0; have q1 := blk_cell HS7.out.b1 1; have q2 := blk_cell HS7.out.b1 2; have q3 := blk_cell HS7.out.b1 3; have q4 := blk_cell HS7.out.b1 4; have q5 := blk_cell HS7.out.b1 5; simp at q0 q1 q2 q3 q4 q5; clear hx7; clear hp6 hb6)
                  | (refine store_ev rfl 30 _ _ rfl rfl w.heap.size (rdC 0 0 0 0 0 0) rfl rfl 30 _ HS7.out.b0 (by kernel_rfl) (by kernel_rfl) (by kernel_rfl) ?_; intro w9 hb9 hp9; have HB9 := Lib.hid hb9; have HP9 := Lib.hid hp9; clear hb9 hp9))
                refine bodyPost_ret (rd_results rfl _ _ w.heap.size 30 (rdC 0 0 0 0 0 0) (0, 0) _ rfl HB9.out hu rfl (by kernel_rfl)) rfl ?_
                exact ⟨_, rfl, Kd.R_nil _ _ _ _ _, HP9.out.below HS7.out.below (Nat.le_refl _)⟩
              · go_wp2_with (first
                  | (go_at_call 33; (with_reducible refine (cursor_Parse.calls kj tx x1 x2 x3 x4 x5 x6 0 _ HX.out).mono ?_); rintro e w5 ⟨rfl, hb5⟩; have HS5 := Lib.hid (HS.out.step hb5); have HN5 := Lib.hid (heap_alloc_new w5 (.cells (rdC 0 0 0 0 0 0) 30)); clear hb5)
                  | (refine store_ev rfl 30 _ _ rfl rfl w5.heap.size (rdC x1 x2 x3 x4 x5 x6) rfl rfl 30 _ HN5.out (by kernel_rfl) (by kernel_rfl) (by kernel_rfl) ?_; intro w6 hb6 hp6; have HS6 := Lib.hid (HS5.out.step (hp6.below ((Below.refl _ _).alloc (Nat.le_refl _) _) (Nat.le_refl _))); have HX6 := Lib.hid hb6; have k13 := blk_cell hb6 5; simp at k13; have k5 := blk_cell HS6.out.b1 5; have f5 := blk_frozen HS6.out.b1 5; simp at k5; have HS7 := Lib.hid (HS6.out.cell 5 x6 (d0 := x1) (d1 := x2) (d2 := x3) (d3 := c3) (d4 := c4) (d5 := x6) rfl); have hx7 := blk_far hb6 (p := ⟨w.heap.size + 1, 5, none⟩) (by have := HS5.out.size; show w5.heap.size ≠ w.heap.size + 1; omega) (.int .u64 x6); have g0 := blk_cell hx7 0; have g1 := blk_cell hx7 1; have g2 := blk_cell hx7 2; have g3 := blk_cell hx7 3; have g4 := blk_cell hx7 4; have g5 := blk_cell hx7 5; simp at g0 g1 g2 g3 g4 g5; have q0 := blk_cell HS7.out.b1 0; have q1 := blk_cell HS7.out.b1 1; have q2 := blk_cell HS7.out.b1 2; have q3 := blk_cell HS7.out.b1 3; have q4 := blk_cell HS7.out.b1 4; have q5 := blk_cell HS7.out.b1 5; simp at q0 q1 q2 q3 q4 q5; clear hx7; clear hp6 hb6)
                  | (refine store_ev rfl 30 _ _ rfl rfl w.heap.size (rdC 0 0 0 0 0 0) rfl rfl 30 _ HS7.out.b0 (by kernel_rfl) (by kernel_rfl) (by kernel_rfl) ?_; intro w9 hb9 hp9; have HB9 := Lib.hid hb9; have HP9 := Lib.hid hp9; clear hb9 hp9))
                refine bodyPost_ret (rd_results rfl _ _ w.heap.size 30 (rdC 0 0 0 0 0 0) (0, 0) _ rfl HB9.out hu rfl (by kernel_rfl)) rfl ?_
                exact ⟨_, rfl, Kd.R_nil _ _ _ _ _, HP9.out.below HS7.out.below (Nat.le_refl _)⟩
              · go_wp2_with (first
                  | (go_at_call 33; (with_reducible refine (cursor_Parse.calls kj tx x1 x2 x3 x4 x5 x6 0 _ HX.out).mono ?_); rintro e w5 ⟨rfl, hb5⟩; have HS5 := Lib.hid (HS.out.step hb5); have HN5 := Lib.hid (heap_alloc_new w5 (.cells (rdC 0 0 0 0 0 0) 30)); clear hb5)
                  | (refine store_ev rfl 30 _ _ rfl rfl w5.heap.size (rdC x1 x2 x3 x4 x5 x6) rfl rfl 30 _ HN5.out (by kernel_rfl) (by kernel_rfl) (by kernel_rfl) ?_; intro w6 hb6 hp6; have HS6 := Lib.hid (HS5.out.step (hp6.below ((Below.refl _ _).alloc (Nat.le_refl _) _) (Nat.le_refl _))); have HX6 := Lib.hid hb6; have k13 := blk_cell hb6 5; simp at k13; have k5 := blk_cell HS6.out.b1 5; have f5 := blk_frozen HS6.out.b1 5; simp at k5; have HS7 := Lib.hid (HS6.out.cell 5 x6 (d0 := x1) (d1 := x2) (d2 := x3) (d3 := x4) (d4 := c4) (d5 := x6) rfl); have hx7 := blk_far hb6 (p := ⟨w.heap.size + 1, 5, none⟩) (by have := HS5.out.size; show w5.heap.size ≠ w.heap.size + 1; omega) (.int .u64 x6); have g0 := blk_cell hx7 0; have g1 := blk_cell hx7 1; have g2 := blk_cell hx7 2; have g3 := blk_cell hx7 3; have g4 := blk_cell hx7 4; have g5 := blk_cell hx7 5; simp at g0 g1 g2 g3 g4 g5; have q0 := blk_cell HS7.out.b1 0; have q1 := blk_cell HS7.out.b1 1; have q2 := blk_cell HS7.out.b1 2; have q3 := blk_cell HS7.out.b1 3; have q4 := blk_cell HS7.out.b1 4; have q5 := blk_cell HS7.out.b1 5; simp at q0 q1 q2 q3 q4 q5; clear hx7; clear hp6 hb6)
                  | (refine store_ev rfl 30 _ _ rfl rfl w.heap.size (rdC 0 0 0 0 0 0) rfl rfl 30 _ HS7.out.b0 (by kernel_rfl) (by kernel_rfl) (by kernel_rfl) ?_; intro w9 hb9 hp9; have HB9 := Lib.hid hb9; have HP9 := Lib.hid hp9; clear hb9 hp9))
                refine bodyPost_ret (rd_results rfl _ _ w.heap.size 30 (rdC 0 0 0 0 0 0) (0, 0) _ rfl HB9.out hu rfl (by kernel_rfl)) rfl ?_
                exact ⟨_, rfl, Kd.R_nil _ _ _ _ _, HP9.out.below HS7.out.below (Nat.le_refl _)⟩
        case rest =>
          obtain ⟨rfl, hbf, HS⟩ := hcut
          have h := HH.out
          rw [if_neg (fun hc => by have z := hbf.out; rw [rdT_of hc] at z; cases z)] at h
          clear HH HB hbf
          obtain ⟨⟨key, v, rst, ok⟩, hf, h⟩ := Option.bind_eq_some_iff.1 h
          dsimp only at h
          have HF := Lib.hid hf
          clear hf
          cases ok with
          | false =>
            rw [if_neg (show ¬ (false = true) by decide)] at h
            simp only [rdZ, Option.some.injEq, Prod.mk.injEq] at h
            obtain ⟨rfl, rfl, rfl, rfl, rfl, rfl, rfl, rfl, rfl⟩ := h
            go_wp2_with (first
              | (go_at_call 34; (with_reducible refine (export_field.calls kj s key v rst false _ HF.out).mono ?_); rintro e w4 ⟨rfl, hb4⟩; have HS4 := Lib.hid (HS.out.step hb4); clear hb4)
              | (refine store_ev rfl 30 _ _ rfl rfl w.heap.size (rdC 0 0 0 0 0 0) rfl rfl 30 _ HS4.out.b0 (by kernel_rfl) (by kernel_rfl) (by kernel_rfl) ?_; intro w9 hb9 hp9; have HB9 := Lib.hid hb9; have HP9 := Lib.hid hp9; clear hb9 hp9))
            refine bodyPost_ret (rd_results rfl _ _ w.heap.size 30 (rdC 0 0 0 0 0 0) (0, 0) _ rfl HB9.out hu rfl (by kernel_rfl)) rfl ?_
            exact ⟨_, rfl, Kd.R_nil _ _ _ _ _, HP9.out.below HS4.out.below (Nat.le_refl _)⟩
          | true =>
            rw [if_pos rfl] at h
            by_cases h6 : 6 ≤ i
            · rw [if_pos h6] at h
              have h6b : decide ((6 : Int) ≤ (i : Int)) = true := decide_eq_true (by omega)
              obtain ⟨nm, hnm, h⟩ := Option.bind_eq_some_iff.1 h
              replace h := Option.bind_eq_some_iff.1 h
              obtain ⟨hp, hhp, h⟩ := h
              have HN := Lib.hid hnm
              have HPX := Lib.hid hhp
              clear hnm hhp
              by_cases hz : key.size + v.size ≤ 1000000000
              case neg => rw [if_neg hz] at h; cases h
              rw [if_pos hz] at h
              have z1 : (key.size + 1 ≤ 9223372036854775807) = True := eq_true (by omega)
              have z2 : (key.size + 1 + v.size ≤ 9223372036854775807) = True := eq_true (by omega)
              have zw : wrap64 (wrap64 ((key.size : Int) + 1) + (v.size : Int)) = ((key.size + 1 + v.size : Nat) : Int) := by
                unfold wrap64
                omega
              by_cases hg : nm = true ∧ hp = false ∧ items.length < 64 ∧ key.size + 1 + v.size ≤ 1024
              · rw [if_pos hg] at h
                obtain ⟨rfl, rfl, g1, g2⟩ := hg
                have g1b : decide ((items.length : Int) < 64) = true := decide_eq_true (by omega)
                have g2b : decide (wrap64 (wrap64 ((key.size : Int) + 1) + (v.size : Int)) ≤ 1024) = true := decide_eq_true (by omega)
                have g2c : decide ((key.size : Int) + 1 + (v.size : Int) ≤ 1024) = true := decide_eq_true (by omega)
                have hlen : (items ++ [(key ++ (⟨#[61]⟩ : ByteArray)) ++ v]).length = items.length + 1 := by simp
                have HLN := Lib.hid hlen
                have HA := Lib.hid h
                clear h zw hlen g2
                go_wp2_with (first
                  | (go_at_call 34; (with_reducible refine (export_field.calls kj s key v rst true _ HF.out).mono ?_); rintro e w4 ⟨rfl, hb4⟩; have HS4 := Lib.hid (HS.out.step hb4); clear hb4)
                  | (go_at_call 35; (with_reducible refine (item_Name.calls key true _ HN.out).mono ?_); rintro e w5 ⟨rfl, hb5⟩; have HS5 := Lib.hid (HS4.out.step hb5); have hs5 := HS5.out.size; clear hb5)
                  | (go_at_call 36; (with_reducible refine (strings_HasPrefix.calls key _ false _ HPX.out).mono ?_); rintro e w6 ⟨rfl, ⟨nd, rfl⟩⟩; have HS6 := Lib.hid (HS5.out.drewN nd); have hs6 := HS6.out.size)
                  | (at_builtin; refine Kd.R_append Kd.string (w0 := _) (w.heap.size + 3) rfl (.tmp 88) (.tmp 93) 24 9 (.string ⟨#[]⟩) 16 rfl Tryd.underlying24 rd_info rfl (by decide) (by omega) _ items ((key ++ (⟨#[61]⟩ : ByteArray)) ++ v) [.string ((key ++ (⟨#[61]⟩ : ByteArray)) ++ v)] (fun j => w.heap.size + 3 ≤ j) (fun _ => False) rfl rfl rfl (fun _ hk => hk.elim) (fun j hj => Nat.le_trans HS6.out.size hj) HS6.out.own (Below.refl _ _) hs6 (by omega) ?_; intro v1 w7 hv1 hb7 hg7 _; have HS7 := Lib.hid (HS6.out.grow hv1 hb7); clear hv1 hb7 hg7))
                go_roundg kj
                case measure => omega
                case rel => exact ⟨i + 1, rst, tx, c0, c1, c2, c3, c4, _, rfl, by go_num, by rw [HLN.out]; omega, by rw [HLN.out]; omega, HA, Lib.hid (by have := HK.out; omega), HS7⟩
              · rw [if_neg hg] at h
                simp only [rdZ, Option.some.injEq, Prod.mk.injEq] at h
                obtain ⟨rfl, rfl, rfl, rfl, rfl, rfl, rfl, rfl, rfl⟩ := h
                have hg' : nm = false ∨ (nm = true ∧ (hp = true ∨ (hp = false ∧ (decide ((items.length : Int) < 64) = false ∨ (decide ((items.length : Int) < 64) = true ∧ decide (wrap64 (wrap64 ((key.size : Int) + 1) + (v.size : Int)) ≤ 1024) = false))))) := by
                  cases nm with
                  | false => exact .inl rfl
                  | true =>
                    cases hp with
                    | true => exact .inr ⟨rfl, .inl rfl⟩
                    | false =>
                      by_cases g1 : items.length < 64
                      · exact .inr ⟨rfl, .inr ⟨rfl, .inr ⟨decide_eq_true (by omega), decide_eq_false (fun hc => hg ⟨rfl, rfl, g1, by omega⟩)⟩⟩⟩
                      · exact .inr ⟨rfl, .inr ⟨rfl, .inl (decide_eq_false (by omega))⟩⟩
                clear hg zw
                rcases hg' with rfl | ⟨rfl, rfl | ⟨rfl, g1 | ⟨g1, g2⟩⟩⟩
                · go_wp2_with (first
                    | (go_at_call 34; (with_reducible refine (export_field.calls kj s key v rst true _ HF.out).mono ?_); rintro e w4 ⟨rfl, hb4⟩; have HS4 := Lib.hid (HS.out.step hb4); clear hb4)
                    | (go_at_call 35; (with_reducible refine (item_Name.calls key false _ HN.out).mono ?_); rintro e w5 ⟨rfl, hb5⟩; have HS5 := Lib.hid (HS4.out.step hb5); have hs5 := HS5.out.size; clear hb5)
                    | (at_builtin; refine Kd.R_append Kd.string (w0 := _) (w.heap.size + 3) rfl (.tmp 88) (.tmp 93) 24 9 (.string ⟨#[]⟩) 16 rfl Tryd.underlying24 rd_info rfl (by decide) (by omega) _ items ((key ++ (⟨#[61]⟩ : ByteArray)) ++ v) [.string ((key ++ (⟨#[61]⟩ : ByteArray)) ++ v)] (fun j => w.heap.size + 3 ≤ j) (fun _ => False) rfl rfl rfl (fun _ hk => hk.elim) (fun j hj => Nat.le_trans HS5.out.size hj) HS5.out.own (Below.refl _ _) hs5 (by omega) ?_; intro v1 w7 hv1 hb7 hg7 _; have HS7 := Lib.hid (HS5.out.grow hv1 hb7); clear hv1 hb7 hg7)
                    | (refine store_ev rfl 30 _ _ rfl rfl w.heap.size (rdC 0 0 0 0 0 0) rfl rfl 30 _ HS7.out.b0 (by kernel_rfl) (by kernel_rfl) (by kernel_rfl) ?_; intro w9 hb9 hp9; have HB9 := Lib.hid hb9; have HP9 := Lib.hid hp9; clear hb9 hp9))
                  refine bodyPost_ret (rd_results rfl _ _ w.heap.size 30 (rdC 0 0 0 0 0 0) (0, 0) _ rfl HB9.out hu rfl (by kernel_rfl)) rfl ?_
                  exact ⟨_, rfl, Kd.R_nil _ _ _ _ _, HP9.out.below HS7.out.below (Nat.le_refl _)⟩
                · go_wp2_with (first
                    | (go_at_call 34; (with_reducible refine (export_field.calls kj s key v rst true _ HF.out).mono ?_); rintro e w4 ⟨rfl, hb4⟩; have HS4 := Lib.hid (HS.out.step hb4); clear hb4)
                    | (go_at_call 35; (with_reducible refine (item_Name.calls key true _ HN.out).mono ?_); rintro e w5 ⟨rfl, hb5⟩; have HS5 := Lib.hid (HS4.out.step hb5); have hs5 := HS5.out.size; clear hb5)
                    | (go_at_call 36; (with_reducible refine (strings_HasPrefix.calls key _ true _ HPX.out).mono ?_); rintro e w6 ⟨rfl, ⟨nd, rfl⟩⟩; have HS6 := Lib.hid (HS5.out.drewN nd); have hs6 := HS6.out.size)
                    | (at_builtin; refine Kd.R_append Kd.string (w0 := _) (w.heap.size + 3) rfl (.tmp 88) (.tmp 93) 24 9 (.string ⟨#[]⟩) 16 rfl Tryd.underlying24 rd_info rfl (by decide) (by omega) _ items ((key ++ (⟨#[61]⟩ : ByteArray)) ++ v) [.string ((key ++ (⟨#[61]⟩ : ByteArray)) ++ v)] (fun j => w.heap.size + 3 ≤ j) (fun _ => False) rfl rfl rfl (fun _ hk => hk.elim) (fun j hj => Nat.le_trans HS6.out.size hj) HS6.out.own (Below.refl _ _) hs6 (by omega) ?_; intro v1 w7 hv1 hb7 hg7 _; have HS7 := Lib.hid (HS6.out.grow hv1 hb7); clear hv1 hb7 hg7)
                    | (refine store_ev rfl 30 _ _ rfl rfl w.heap.size (rdC 0 0 0 0 0 0) rfl rfl 30 _ HS7.out.b0 (by kernel_rfl) (by kernel_rfl) (by kernel_rfl) ?_; intro w9 hb9 hp9; have HB9 := Lib.hid hb9; have HP9 := Lib.hid hp9; clear hb9 hp9))
                  refine bodyPost_ret (rd_results rfl _ _ w.heap.size 30 (rdC 0 0 0 0 0 0) (0, 0) _ rfl HB9.out hu rfl (by kernel_rfl)) rfl ?_
                  exact ⟨_, rfl, Kd.R_nil _ _ _ _ _, HP9.out.below HS7.out.below (Nat.le_refl _)⟩
                · go_wp2_with (first
                    | (go_at_call 34; (with_reducible refine (export_field.calls kj s key v rst true _ HF.out).mono ?_); rintro e w4 ⟨rfl, hb4⟩; have HS4 := Lib.hid (HS.out.step hb4); clear hb4)
                    | (go_at_call 35; (with_reducible refine (item_Name.calls key true _ HN.out).mono ?_); rintro e w5 ⟨rfl, hb5⟩; have HS5 := Lib.hid (HS4.out.step hb5); have hs5 := HS5.out.size; clear hb5)
                    | (go_at_call 36; (with_reducible refine (strings_HasPrefix.calls key _ false _ HPX.out).mono ?_); rintro e w6 ⟨rfl, ⟨nd, rfl⟩⟩; have HS6 := Lib.hid (HS5.out.drewN nd); have hs6 := HS6.out.size)
                    | (at_builtin; refine Kd.R_append Kd.string (w0 := _) (w.heap.size + 3) rfl (.tmp 88) (.tmp 93) 24 9 (.string ⟨#[]⟩) 16 rfl Tryd.underlying24 rd_info rfl (by decide) (by omega) _ items ((key ++ (⟨#[61]⟩ : ByteArray)) ++ v) [.string ((key ++ (⟨#[61]⟩ : ByteArray)) ++ v)] (fun j => w.heap.size + 3 ≤ j) (fun _ => False) rfl rfl rfl (fun _ hk => hk.elim) (fun j hj => Nat.le_trans HS6.out.size hj) HS6.out.own (Below.refl _ _) hs6 (by omega) ?_; intro v1 w7 hv1 hb7 hg7 _; have HS7 := Lib.hid (HS6.out.grow hv1 hb7); clear hv1 hb7 hg7)
                    | (refine store_ev rfl 30 _ _ rfl rfl w.heap.size (rdC 0 0 0 0 0 0) rfl rfl 30 _ HS7.out.b0 (by kernel_rfl) (by kernel_rfl) (by kernel_rfl) ?_; intro w9 hb9 hp9; have HB9 := Lib.hid hb9; have HP9 := Lib.hid hp9; clear hb9 hp9))
                  refine bodyPost_ret (rd_results rfl _ _ w.heap.size 30 (rdC 0 0 0 0 0 0) (0, 0) _ rfl HB9.out hu rfl (by kernel_rfl)) rfl ?_
                  exact ⟨_, rfl, Kd.R_nil _ _ _ _ _, HP9.out.below HS7.out.below (Nat.le_refl _)⟩
                · have g2c : decide ((key.size : Int) + 1 + (v.size : Int) ≤ 1024) = false := decide_eq_false (by have z := of_decide_eq_false g2; unfold wrap64 at z; omega)
                  go_wp2_with (first
                    | (go_at_call 34; (with_reducible refine (export_field.calls kj s key v rst true _ HF.out).mono ?_); rintro e w4 ⟨rfl, hb4⟩; have HS4 := Lib.hid (HS.out.step hb4); clear hb4)
                    | (go_at_call 35; (with_reducible refine (item_Name.calls key true _ HN.out).mono ?_); rintro e w5 ⟨rfl, hb5⟩; have HS5 := Lib.hid (HS4.out.step hb5); have hs5 := HS5.out.size; clear hb5)
                    | (go_at_call 36; (with_reducible refine (strings_HasPrefix.calls key _ false _ HPX.out).mono ?_); rintro e w6 ⟨rfl, ⟨nd, rfl⟩⟩; have HS6 := Lib.hid (HS5.out.drewN nd); have hs6 := HS6.out.size)
                    | (at_builtin; refine Kd.R_append Kd.string (w0 := _) (w.heap.size + 3) rfl (.tmp 88) (.tmp 93) 24 9 (.string ⟨#[]⟩) 16 rfl Tryd.underlying24 rd_info rfl (by decide) (by omega) _ items ((key ++ (⟨#[61]⟩ : ByteArray)) ++ v) [.string ((key ++ (⟨#[61]⟩ : ByteArray)) ++ v)] (fun j => w.heap.size + 3 ≤ j) (fun _ => False) rfl rfl rfl (fun _ hk => hk.elim) (fun j hj => Nat.le_trans HS6.out.size hj) HS6.out.own (Below.refl _ _) hs6 (by omega) ?_; intro v1 w7 hv1 hb7 hg7 _; have HS7 := Lib.hid (HS6.out.grow hv1 hb7); clear hv1 hb7 hg7)
                    | (refine store_ev rfl 30 _ _ rfl rfl w.heap.size (rdC 0 0 0 0 0 0) rfl rfl 30 _ HS7.out.b0 (by kernel_rfl) (by kernel_rfl) (by kernel_rfl) ?_; intro w9 hb9 hp9; have HB9 := Lib.hid hb9; have HP9 := Lib.hid hp9; clear hb9 hp9))
                  refine bodyPost_ret (rd_results rfl _ _ w.heap.size 30 (rdC 0 0 0 0 0 0) (0, 0) _ rfl HB9.out hu rfl (by kernel_rfl)) rfl ?_
                  exact ⟨_, rfl, Kd.R_nil _ _ _ _ _, HP9.out.below HS7.out.below (Nat.le_refl _)⟩
            · rw [if_neg h6] at h
              have h6b : decide ((6 : Int) ≤ (i : Int)) = false := decide_eq_false (by omega)
              by_cases hk : (key.toList == (tellKeys.getD i ⟨#[]⟩).toList) = true
              · rw [if_pos hk] at h
                have HKQ := Lib.hid hk
                clear hk
                by_cases h0 : i = 0
                · subst h0
                  rw [if_pos rfl] at h
                  have HA := Lib.hid h
                  clear h h6 hil
                  go_wp2_with (first
                    | (go_at_call 34; (with_reducible refine (export_field.calls kj s key v rst true _ HF.out).mono ?_); rintro e w4 ⟨rfl, hb4⟩; have HS4 := Lib.hid (HS.out.step hb4); clear hb4)
                    | (go_at_call 37; (with_reducible refine (tell_text key v tx (w.heap.size + 2) _ _ HS4.out.b2 HKQ.out).mono ?_); rintro e w5 ⟨rfl, w6, hb6, rfl⟩; have HS5 := Lib.hid ((HS4.out.step hb6).text v); clear hb6))
                  go_roundg kj
                  case measure => omega
                  case rel => exact ⟨1, rst, v, c0, c1, c2, c3, c4, items, rfl, by go_num, by omega, hin, HA, Lib.hid (by have := HK.out; omega), HS5⟩
                · rw [if_neg h0] at h
                  obtain ⟨⟨n, b⟩, hv, h⟩ := Option.bind_eq_some_iff.1 h
                  dsimp only at h
                  have HV := Lib.hid hv
                  clear hv
                  have HE : Hid ((rdC c0 c1 c2 c3 c4 0).setIfInBounds (5 - i) (.int .u64 n) = rdC (if i = 5 then n else c0) (if i = 4 then n else c1) (if i = 3 then n else c2) (if i = 2 then n else c3) (if i = 1 then n else c4) 0) := Lib.hid (by
                    obtain rfl | rfl | rfl | rfl | rfl : i = 1 ∨ i = 2 ∨ i = 3 ∨ i = 4 ∨ i = 5 := by omega
                    all_goals rfl)
                  cases b with
                  | true =>
                    rw [if_pos rfl] at h
                    have HA := Lib.hid h
                    clear h
                    generalize (if i = 5 then n else c0) = d0 at HE HA
                    generalize (if i = 4 then n else c1) = d1 at HE HA
                    generalize (if i = 3 then n else c2) = d2 at HE HA
                    generalize (if i = 2 then n else c3) = d3 at HE HA
                    generalize (if i = 1 then n else c4) = d4 at HE HA
                    go_wp2_with (first
                      | (go_at_call 34; (with_reducible refine (export_field.calls kj s key v rst true _ HF.out).mono ?_); rintro e w4 ⟨rfl, hb4⟩; have HS4 := Lib.hid (HS.out.step hb4); clear hb4)
                      | (go_at_call 37; (with_reducible refine (tell_num i (by omega) key v n true c0 c1 c2 c3 c4 0 (w.heap.size + 1) _ _ HS4.out.b1 HKQ.out HV.out).mono ?_); rintro e w5 ⟨rfl, w6, hb6, rfl⟩; have HS5 := Lib.hid ((HS4.out.step hb6).cell (5 - i) n HE.out); clear hb6))
                    go_roundg kj
                    case measure => omega
                    case rel => exact ⟨i + 1, rst, tx, d0, d1, d2, d3, d4, items, rfl, by go_num, by omega, hin, HA, Lib.hid (by have := HK.out; omega), HS5⟩
                  | false =>
                    rw [if_neg (show ¬ (false = true) by decide)] at h
                    simp only [rdZ, Option.some.injEq, Prod.mk.injEq] at h
                    obtain ⟨rfl, rfl, rfl, rfl, rfl, rfl, rfl, rfl, rfl⟩ := h
                    go_wp2_with (first
                      | (go_at_call 34; (with_reducible refine (export_field.calls kj s key v rst true _ HF.out).mono ?_); rintro e w4 ⟨rfl, hb4⟩; have HS4 := Lib.hid (HS.out.step hb4); clear hb4)
                      | (go_at_call 37; (with_reducible refine (tell_num i (by omega) key v n false c0 c1 c2 c3 c4 0 (w.heap.size + 1) _ _ HS4.out.b1 HKQ.out HV.out).mono ?_); rintro e w5 ⟨rfl, w6, hb6, rfl⟩; have HS5 := Lib.hid ((HS4.out.step hb6).cell (5 - i) n HE.out); clear hb6)
                      | (refine store_ev rfl 30 _ _ rfl rfl w.heap.size (rdC 0 0 0 0 0 0) rfl rfl 30 _ HS5.out.b0 (by kernel_rfl) (by kernel_rfl) (by kernel_rfl) ?_; intro w9 hb9 hp9; have HB9 := Lib.hid hb9; have HP9 := Lib.hid hp9; clear hb9 hp9))
                    refine bodyPost_ret (rd_results rfl _ _ w.heap.size 30 (rdC 0 0 0 0 0 0) (0, 0) _ rfl HB9.out hu rfl (by kernel_rfl)) rfl ?_
                    exact ⟨_, rfl, Kd.R_nil _ _ _ _ _, HP9.out.below HS5.out.below (Nat.le_refl _)⟩
              · rw [if_neg hk] at h
                have HKQ := Lib.hid (Bool.eq_false_iff.2 hk)
                clear hk
                simp only [rdZ, Option.some.injEq, Prod.mk.injEq] at h
                obtain ⟨rfl, rfl, rfl, rfl, rfl, rfl, rfl, rfl, rfl⟩ := h
                go_wp2_with (first
                  | (go_at_call 34; (with_reducible refine (export_field.calls kj s key v rst true _ HF.out).mono ?_); rintro e w4 ⟨rfl, hb4⟩; have HS4 := Lib.hid (HS.out.step hb4); clear hb4)
                  | (go_at_call 37; (with_reducible refine (tell_no i (by omega) key v _ _ _ HKQ.out).mono ?_); rintro e w5 ⟨rfl, hb5⟩; have HS5 := Lib.hid (HS4.out.step hb5); clear hb5)
                  | (refine store_ev rfl 30 _ _ rfl rfl w.heap.size (rdC 0 0 0 0 0 0) rfl rfl 30 _ HS5.out.b0 (by kernel_rfl) (by kernel_rfl) (by kernel_rfl) ?_; intro w9 hb9 hp9; have HB9 := Lib.hid hb9; have HP9 := Lib.hid hp9; clear hb9 hp9))
                refine bodyPost_ret (rd_results rfl _ _ w.heap.size 30 (rdC 0 0 0 0 0 0) (0, 0) _ rfl HB9.out hu rfl (by kernel_rfl)) rfl ?_
                exact ⟨_, rfl, Kd.R_nil _ _ _ _ _, HP9.out.below HS5.out.below (Nat.le_refl _)⟩

/-! ### export_All: function 17 -/
def export_All.l0 : Nat → ByteArray → List (S30) → List (List ByteArray) → Option ((List (S30)) × (List (List ByteArray)) × Bool)
  | 0, _, _, _ => none
  | k + 1, x0, x5, x6 => if x0.toList = ([] : List UInt8) then (some (x5, x6, true)) else ((export_Read.f k x0).bind fun bt203 => (if bt203.2.2.2.2.2.2.2.2 = true then (if x5.length < 2932031007402 then (if x6.length < 5864062014805 then (export_All.l0 k bt203.2.2.2.2.2.2.2.1 (x5 ++ [(⟨bt203.1, bt203.2.1, bt203.2.2.1, bt203.2.2.2.1, bt203.2.2.2.2.1, bt203.2.2.2.2.2.1⟩ : S30)]) (x6 ++ [bt203.2.2.2.2.2.2.1])) else (none)) else (none)) else (some (([] : List (S30)), ([] : List (List ByteArray)), false))))
def export_All.f (k : Nat) (a0 : ByteArray) : Option ((List (S30)) × (List (List ByteArray)) × Bool) := export_All.l0 k a0 ([] : List (S30)) ([] : List (List ByteArray))
theorem export_All.mono_l : ∀ k, (∀ y0 y1 y2, LeO (export_All.l0 k y0 y1 y2) (export_All.l0 (k + 1) y0 y1 y2))
  | 0 => fun _ _ _ r h => by simp [export_All.l0] at h
  | k + 1 => by
    have ih0 := export_All.mono_l k
    · intro y0 y1 y2
      unfold export_All.l0
      repeat' first
      | (with_reducible exact ih0 _ _ _)
      | (with_reducible exact export_Read.mono _ _)
      | (with_reducible exact LeO.refl _)
      | (with_reducible exact LeO.none _)
      | (with_reducible refine LeO.ite ?_ ?_)
      | (with_reducible refine LeO.bind ?_ (fun _ => ?_))
      | exact ih0 _ _ _
      | exact export_Read.mono _ _
      | exact LeO.none _
      | refine LeO.ite ?_ ?_
      | refine LeO.bind ?_ (fun _ => ?_)
theorem export_All.mono : ∀ a0 k, LeO (export_All.f k a0) (export_All.f (k + 1) a0) := by
  intro a0 k
  have ih0 := export_All.mono_l k
  unfold export_All.f
  repeat' first
      | (with_reducible exact ih0 _ _ _)
      | (with_reducible exact export_Read.mono _ _)
      | (with_reducible exact LeO.refl _)
      | (with_reducible exact LeO.none _)
      | (with_reducible refine LeO.ite ?_ ?_)
      | (with_reducible refine LeO.bind ?_ (fun _ => ?_))
      | exact ih0 _ _ _
      | exact export_Read.mono _ _
      | exact LeO.none _
      | refine LeO.ite ?_ ?_
      | refine LeO.bind ?_ (fun _ => ?_)
set_option maxHeartbeats 8000000 in
set_option maxRecDepth 100000 in
theorem export_All.calls (k : Nat) (a0 : ByteArray) (r1 : List (S30)) (r2 : List (List ByteArray)) (r3 : Bool) (w : World) (h : export_All.f k a0 = some (r1, r2, r3)) :
    Calls Tryd.prog 17 #[.string a0] w fun e w' => ∃ v0_ v1_ : Value, e = .returned (.tuple #[v0_, v1_, .bool r3]) ∧ Kd.R k30 30 w' w.heap.size (fun _ => True) v0_ r1 ∧ Kd.S (Kd.slice 9 Kd.string) 24 w' w.heap.size (fun _ => True) v1_ r2 ∧ Below w.heap.size w w' := by
  have hu30 := Tryd.underlying30
  have HB := Aside0.mk (Below.refl w.heap.size w)
  have H : (export_All.l0 k a0 ([] : List (S30)) ([] : List (List ByteArray))) = some (r1, r2, r3) := h
  clear h
  have H' := Aside0.mk H
  clear H
  go_enter Tryd.func17, Tryd.ntmps17
  go_wp2
  go_loopg [0, 5, 6] k (fun kq v0 v5 v6 w' => ∃ (x0_1 : ByteArray) (x5_1 : List (S30)) (x6_1 : List (List ByteArray)), v0 = .string x0_1 ∧ Aside0 (export_All.l0 kq x0_1 x5_1 x6_1 = some (r1, r2, r3)) ∧ Aside0 (kq ≤ k) ∧ Aside0 (Kd.R k30 30 w' w.heap.size (fun _ => True) v5 x5_1) ∧ Aside0 (Kd.S (Kd.slice 9 Kd.string) 24 w' w.heap.size (fun _ => True) v6 x6_1) ∧ Aside0 (Below w.heap.size w w'))
  case atStart => exact ⟨(a0), (([] : List (S30))), (([] : List (List ByteArray))), (by first | rfl | (simp; done) | (simp [*]; done) | exact isEmpty_bne _), H', ⟨Nat.le_refl _⟩, ⟨by first | exact Kd.R_nil _ _ _ _ _ | exact Kd.N_nil _ _ _ _ _ | exact Kd.V_nil _ _ _ _ _ | exact Kd.Q_nil _ _ _ _ _ | exact Kd.S_nil _ _ _ _ _⟩, ⟨by first | exact Kd.S_nil _ _ _ _ _ | exact Kd.N_nil _ _ _ _ _ | exact Kd.V_nil _ _ _ _ _ | exact Kd.Q_nil _ _ _ _ _ | exact Kd.R_nil _ _ _ _ _⟩, ⟨by repeat (first | (with_reducible first | exact HB.out | apply below_alloc | apply pw_below_drewN | apply below_drew1) | exact HB.out)⟩⟩
  case round =>
    clear H'
    try clear c1
    obtain ⟨x0_1, x5_1, x6_1, rfl, HA, HK1, HO_5, HO_6, HB⟩ := hrel
    cases gk with
    | zero => exact absurd HA.out (by simp [export_All.l0])
    | succ k1 =>
      have H := HA.out
      clear HA
      simp only [export_All.l0] at H
      by_cases c2 : x0_1.toList = ([] : List UInt8)
      · rw [if_pos c2] at H
        have c2b0 : (x0_1.toList == ([] : List UInt8)) = true := beq_iff_eq.mpr c2
        have c2b1 : (x0_1.toList != ([] : List UInt8)) = false := bne_eq_false_iff_eq.mpr c2
        clear c2
        simp only [Option.some.injEq, Prod.mk.injEq] at H
        obtain ⟨rfl, rfl, rfl⟩ := H
        go_wp2
        go_ret3
        exact ⟨_, _, by first | rfl | (simp [errW_none, errW_some] <;> rfl) | (simp [*, errW_none, errW_some] <;> rfl), by (with_reducible repeat (first | apply Kd.R_alloc | apply Kd.R_drewN | apply Kd.R_drew)); exact HO_5.out, by (with_reducible repeat (first | apply Kd.S_alloc | apply Kd.S_drewN | apply Kd.S_drew)); exact HO_6.out, by repeat (first | (with_reducible first | exact HB.out | apply below_alloc | apply pw_below_drewN | apply below_drew1) | exact HB.out)⟩
      · rw [if_neg c2] at H
        have c2b0 : (x0_1.toList == ([] : List UInt8)) = false := beq_eq_false_iff_ne.mpr c2
        have c2b1 : (x0_1.toList != ([] : List UInt8)) = true := bne_iff_ne.mpr c2
        replace H := Option.bind_eq_some_iff.mp H
        obtain ⟨⟨t203, t204, t205, t206, t207, t208, t209, t212, t213⟩, A30, H⟩ := H
        replace H : (if t213 = true then (if x5_1.length < 2932031007402 then (if x6_1.length < 5864062014805 then (export_All.l0 k1 t212 (x5_1 ++ [(⟨t203, t204, t205, t206, t207, t208⟩ : S30)]) (x6_1 ++ [t209])) else (none)) else (none)) else (some (([] : List (S30)), ([] : List (List ByteArray)), false))) = some (r1, r2, r3) := H
        have A3 := Aside0.mk A30
        clear A30
        by_cases c4 : t213 = true
        · subst c4
          have H1 : (if x5_1.length < 2932031007402 then (if x6_1.length < 5864062014805 then (export_All.l0 k1 t212 (x5_1 ++ [(⟨t203, t204, t205, t206, t207, t208⟩ : S30)]) (x6_1 ++ [t209])) else (none)) else (none)) = some (r1, r2, r3) := by rw [if_pos rfl] at H; exact H
          clear H
          have H := H1
          clear H1
          by_cases c5 : x5_1.length < 2932031007402
          · rw [if_pos c5] at H
            have LMc5 := Aside0.mk c5
            clear c5
            obtain ⟨y215, hy215⟩ : ∃ y_ : List (S30), y_ = (x5_1 ++ [(⟨t203, t204, t205, t206, t207, t208⟩ : S30)]) := ⟨_, rfl⟩
            replace H : (if x6_1.length < 5864062014805 then (export_All.l0 k1 t212 y215 (x6_1 ++ [t209])) else (none)) = some (r1, r2, r3) := by first | (rw [hy215]; with_reducible exact H) | (have H2_ := (Option.bind_some _ _).symm.trans H; rw [hy215]; with_reducible exact H2_) | (have H2_ := (Option.bind_some _ _).symm.trans H; with_reducible exact H2_) | with_reducible exact H | (rw [hy215]; exact H) | exact H
            have Ny215 := Aside0.mk hy215
            clear hy215
            by_cases c6 : x6_1.length < 5864062014805
            · rw [if_pos c6] at H
              have LMc6 := Aside0.mk c6
              clear c6
              obtain ⟨y218, hy218⟩ : ∃ y_ : List (List ByteArray), y_ = (x6_1 ++ [t209]) := ⟨_, rfl⟩
              replace H : (export_All.l0 k1 t212 y215 y218) = some (r1, r2, r3) := by first | (rw [hy218]; with_reducible exact H) | (have H2_ := (Option.bind_some _ _).symm.trans H; rw [hy218]; with_reducible exact H2_) | (have H2_ := (Option.bind_some _ _).symm.trans H; with_reducible exact H2_) | with_reducible exact H | (rw [hy218]; exact H) | exact H
              have Ny218 := Aside0.mk hy218
              clear hy218
              have H' := Aside0.mk H
              clear H
              go_wp2_with (first | ((with_reducible refine gate_callee (f := 13) rfl ?_); refine goesL_ (some 15) rfl rfl Tryd.func13 (by kernel_rfl) rfl #[.string x0_1] rfl (by (try simp only [List.map_toArray, List.map_cons, List.map_nil]); first | done | rfl | (simp only [List.length_drop, List.length_take]; rfl)) ?_; (with_reducible refine (export_Read.calls k1 x0_1 t203 t204 t205 t206 t207 t208 t209 t212 true _ A3.out).mono ?_); rintro e w7 ⟨v210, rfl, ho0, hb⟩; refine ⟨_, rfl, ?_⟩; have n0_ := Aside0.mk (Kd.R_below (by (with_reducible repeat (first | apply Kd.R_alloc | apply Kd.R_drewN | apply Kd.R_drew)); exact HO_5.out) hb); have n1_ := Aside0.mk (Kd.S_elder' (by (with_reducible repeat (first | apply Kd.S_alloc | apply Kd.S_drewN | apply Kd.S_drew)); exact HO_6.out) (Kd.R_base ho0) hb); have n2_ := Aside0.mk (Kd.R_lower ho0 (below_size (by repeat (first | (with_reducible first | exact HB.out | apply below_alloc | apply pw_below_drewN | apply below_drew1) | exact HB.out)))); have n3_ := Aside0.mk (below_step (by repeat (first | (with_reducible first | exact HB.out | apply below_alloc | apply pw_below_drewN | apply below_drew1) | exact HB.out)) hb); clear HO_5; clear HO_6; clear HB; have HO_5 := n0_; have HO_6 := n1_; have HO211 := n2_; have HB := n3_; clear n0_ n1_ n2_ n3_; (try clear hb); (try clear hb2); (try clear hk); (try clear hi); (try clear ho0)) | ((with_reducible refine gate_dst (N := 7) rfl ?_); refine box_event ?hg (N := 7) ?hd (cs := #[.int .u64 0, .int .u64 0, .int .u64 0, .int .u64 0, .int .u64 0, .int .u64 0]) (t := 30) ?hr ?_; (case hd => rfl); (case hg => rfl); (case hr => first | (go_simp; done) | (go_simp; rfl)); intro gb214 hg w8 hbox hb; have n0_ := Aside0.mk (Kd.R_below (Kd.R_elderB (by (with_reducible repeat (first | apply Kd.R_alloc | apply Kd.R_drewN | apply Kd.R_drew)); exact HO_5.out) gb214 (Nat.le_of_eq hg.symm)) hb); have n1_ := Aside0.mk (Kd.S_below (by (with_reducible repeat (first | apply Kd.S_alloc | apply Kd.S_drewN | apply Kd.S_drew)); exact HO_6.out) hb); have n2_ := Aside0.mk (Kd.R_below (by (with_reducible repeat (first | apply Kd.R_alloc | apply Kd.R_drewN | apply Kd.R_drew)); exact HO211.out) hb); have n3_ := Aside0.mk (below_step (by repeat (first | (with_reducible first | exact HB.out | apply below_alloc | apply pw_below_drewN | apply below_drew1) | exact HB.out)) hb); have n4_ := Aside0.mk (hbox); have n5_ := Aside0.mk ((by rw [hg]; exact (below_size (by repeat (first | (with_reducible first | exact HB.out | apply below_alloc | apply pw_below_drewN | apply below_drew1) | exact HB.out))) : w.heap.size ≤ gb214)); have n6_ := Aside0.mk ((by rw [hg]; exact (below_size (by repeat (first | (with_reducible first | exact HB.out | apply below_alloc | apply pw_below_drewN | apply below_drew1) | exact HB.out))) : w.heap.size ≤ gb214)); clear HO_5; clear HO_6; clear HO211; clear HB; have HO_5 := n0_; have HO_6 := n1_; have HO211 := n2_; have HB := n3_; have BK214 := n4_; have GW214 := n5_; have GE214 := n6_; clear n0_ n1_ n2_ n3_ n4_ n5_ n6_; clear hb hbox hg; have hcz9_0 : w8.cell? ⟨gb214, 0, none⟩ = some (.int .u64 0) := (blk_cell BK214.out 0).trans rfl; have hcz9_1 : w8.cell? ⟨gb214, 1, none⟩ = some (.int .u64 0) := (blk_cell BK214.out 1).trans rfl; have hcz9_2 : w8.cell? ⟨gb214, 2, none⟩ = some (.int .u64 0) := (blk_cell BK214.out 2).trans rfl; have hcz9_3 : w8.cell? ⟨gb214, 3, none⟩ = some (.int .u64 0) := (blk_cell BK214.out 3).trans rfl; have hcz9_4 : w8.cell? ⟨gb214, 4, none⟩ = some (.int .u64 0) := (blk_cell BK214.out 4).trans rfl; have hcz9_5 : w8.cell? ⟨gb214, 5, none⟩ = some (.int .u64 0) := (blk_cell BK214.out 5).trans rfl; have hfz9_0 := blk_frozen BK214.out 0; have hfz9_1 := blk_frozen BK214.out 1; have hfz9_2 := blk_frozen BK214.out 2; have hfz9_3 := blk_frozen BK214.out 3; have hfz9_4 := blk_frozen BK214.out 4; have hfz9_5 := blk_frozen BK214.out 5) | ((with_reducible refine gate_builtin (b := .append) (xs := #[.tmp 22, .tmp 24]) rfl ?_); at_builtin; refine Kd.R_append k30 (w0 := w) w.heap.size rfl (.tmp 22) (.tmp 24) 44 30 (.agg #[(.int .u64 0), (.int .u64 0), (.int .u64 0), (.int .u64 0), (.int .u64 0), (.int .u64 0)]) 48 rfl Tryd.underlying44 info30 rfl (by decide) (by omega) u5 x5_1 (⟨t203, t204, t205, t206, t207, t208⟩ : S30) [.int .u64 t203, .int .u64 t204, .int .u64 t205, .int .u64 t206, .int .u64 t207, .int .u64 t208] (fun k_ => k_ ≠ gb214) (fun _ => False) rfl (by first | (go_simp; done) | (go_simp; rfl)) ?aP (fun _ hk => hk.elim) ?aF ?aO ?aB ?aS ?aL ?_; (case aP => exact k30_mkM _ _ _ (⟨t203, t204, t205, t206, t207, t208⟩ : S30)); (case aB => exact (by repeat (first | (with_reducible first | exact HB.out | apply below_alloc | apply pw_below_drewN | apply below_drew1 | refine below_set ?_ GE214.out) | exact HB.out))); (case aF => exact (fun k_ hk => Kd.freshB (g := gb214) (o := .cells #[.int .u64 t203, .int .u64 t204, .int .u64 t205, .int .u64 t206, .int .u64 t207, .int .u64 t208] 30 (0, 0)) (by (with_reducible repeat (first | refine blk_drewN ?_ _ | refine blk_drew ?_ | refine blk_alloc ?_ _)); refine blk_put (cs := #[.int .u64 t203, .int .u64 t204, .int .u64 t205, .int .u64 t206, .int .u64 t207, .int .u64 0]) ?_ 5 _ rfl; (with_reducible repeat (first | refine blk_drewN ?_ _ | refine blk_drew ?_ | refine blk_alloc ?_ _)); refine blk_put (cs := #[.int .u64 t203, .int .u64 t204, .int .u64 t205, .int .u64 t206, .int .u64 0, .int .u64 0]) ?_ 4 _ rfl; (with_reducible repeat (first | refine blk_drewN ?_ _ | refine blk_drew ?_ | refine blk_alloc ?_ _)); refine blk_put (cs := #[.int .u64 t203, .int .u64 t204, .int .u64 t205, .int .u64 0, .int .u64 0, .int .u64 0]) ?_ 3 _ rfl; (with_reducible repeat (first | refine blk_drewN ?_ _ | refine blk_drew ?_ | refine blk_alloc ?_ _)); refine blk_put (cs := #[.int .u64 t203, .int .u64 t204, .int .u64 0, .int .u64 0, .int .u64 0, .int .u64 0]) ?_ 2 _ rfl; (with_reducible repeat (first | refine blk_drewN ?_ _ | refine blk_drew ?_ | refine blk_alloc ?_ _)); refine blk_put (cs := #[.int .u64 t203, .int .u64 0, .int .u64 0, .int .u64 0, .int .u64 0, .int .u64 0]) ?_ 1 _ rfl; (with_reducible repeat (first | refine blk_drewN ?_ _ | refine blk_drew ?_ | refine blk_alloc ?_ _)); refine blk_put (cs := #[.int .u64 0, .int .u64 0, .int .u64 0, .int .u64 0, .int .u64 0, .int .u64 0]) ?_ 0 _ rfl; (with_reducible repeat (first | refine blk_drewN ?_ _ | refine blk_drew ?_ | refine blk_alloc ?_ _)); exact BK214.out) k_ hk)); (case aO => exact (by (with_reducible repeat (first | apply Kd.R_alloc | apply Kd.R_drewN | apply Kd.R_drew)); exact Kd.R_mono (Kd.R_far (p := ⟨gb214, 5, none⟩) (Kd.R_far (p := ⟨gb214, 4, none⟩) (Kd.R_far (p := ⟨gb214, 3, none⟩) (Kd.R_far (p := ⟨gb214, 2, none⟩) (Kd.R_far (p := ⟨gb214, 1, none⟩) (Kd.R_far (p := ⟨gb214, 0, none⟩) (Kd.R_mono HO_5.out (fun k_ hk => (⟨hk, hk.2⟩ : _ ∧ k_ ≠ gb214))) (fun _ hk => hk.2) (.int .u64 t203)) (fun _ hk => hk.2) (.int .u64 t204)) (fun _ hk => hk.2) (.int .u64 t205)) (fun _ hk => hk.2) (.int .u64 t206)) (fun _ hk => hk.2) (.int .u64 t207)) (fun _ hk => hk.2) (.int .u64 t208)) (fun _ hk => hk.1.2))); (case aS => exact (below_size (by repeat (first | (with_reducible first | exact HB.out | apply below_alloc | apply pw_below_drewN | apply below_drew1 | refine below_set ?_ GE214.out) | exact HB.out)))); (case aL => have := LMc5.out; omega); intro v216 w10 ho hb hg hat; rw [← Ny215.out] at ho; have n0_ := Aside0.mk (Kd.S_over' (by (with_reducible repeat (first | apply Kd.S_alloc | apply Kd.S_drewN | apply Kd.S_drew)); exact (Kd.S_mono (Kd.S_far (p := ⟨gb214, 5, none⟩) (Kd.S_far (p := ⟨gb214, 4, none⟩) (Kd.S_far (p := ⟨gb214, 3, none⟩) (Kd.S_far (p := ⟨gb214, 2, none⟩) (Kd.S_far (p := ⟨gb214, 1, none⟩) (Kd.S_far (p := ⟨gb214, 0, none⟩) (Kd.S_types HO_6.out BK214.out (by decide)) (fun _ hk => hk.2) (.int .u64 t203)) (fun _ hk => hk.2) (.int .u64 t204)) (fun _ hk => hk.2) (.int .u64 t205)) (fun _ hk => hk.2) (.int .u64 t206)) (fun _ hk => hk.2) (.int .u64 t207)) (fun _ hk => hk.2) (.int .u64 t208)) (fun _ h_ => h_.1))) (Kd.R_typed (by (with_reducible repeat (first | apply Kd.R_alloc | apply Kd.R_drewN | apply Kd.R_drew)); exact (Kd.R_mono (Kd.R_far (p := ⟨gb214, 5, none⟩) (Kd.R_far (p := ⟨gb214, 4, none⟩) (Kd.R_far (p := ⟨gb214, 3, none⟩) (Kd.R_far (p := ⟨gb214, 2, none⟩) (Kd.R_far (p := ⟨gb214, 1, none⟩) (Kd.R_far (p := ⟨gb214, 0, none⟩) (Kd.R_mono HO_5.out (fun k_ hk => (⟨hk, hk.2⟩ : _ ∧ k_ ≠ gb214))) (fun _ hk => hk.2) (.int .u64 t203)) (fun _ hk => hk.2) (.int .u64 t204)) (fun _ hk => hk.2) (.int .u64 t205)) (fun _ hk => hk.2) (.int .u64 t206)) (fun _ hk => hk.2) (.int .u64 t207)) (fun _ hk => hk.2) (.int .u64 t208)) (fun _ h_ => h_.1)))) (by decide) hg); have n1_ := Aside0.mk (Kd.R_over' (by (with_reducible repeat (first | apply Kd.R_alloc | apply Kd.R_drewN | apply Kd.R_drew)); exact (Kd.R_mono (Kd.R_far (p := ⟨gb214, 5, none⟩) (Kd.R_far (p := ⟨gb214, 4, none⟩) (Kd.R_far (p := ⟨gb214, 3, none⟩) (Kd.R_far (p := ⟨gb214, 2, none⟩) (Kd.R_far (p := ⟨gb214, 1, none⟩) (Kd.R_far (p := ⟨gb214, 0, none⟩) (Kd.R_types HO211.out BK214.out (by decide)) (fun _ hk => hk.2) (.int .u64 t203)) (fun _ hk => hk.2) (.int .u64 t204)) (fun _ hk => hk.2) (.int .u64 t205)) (fun _ hk => hk.2) (.int .u64 t206)) (fun _ hk => hk.2) (.int .u64 t207)) (fun _ hk => hk.2) (.int .u64 t208)) (fun _ h_ => h_.1))) (Kd.R_typed (by (with_reducible repeat (first | apply Kd.R_alloc | apply Kd.R_drewN | apply Kd.R_drew)); exact (Kd.R_mono (Kd.R_far (p := ⟨gb214, 5, none⟩) (Kd.R_far (p := ⟨gb214, 4, none⟩) (Kd.R_far (p := ⟨gb214, 3, none⟩) (Kd.R_far (p := ⟨gb214, 2, none⟩) (Kd.R_far (p := ⟨gb214, 1, none⟩) (Kd.R_far (p := ⟨gb214, 0, none⟩) (Kd.R_mono HO_5.out (fun k_ hk => (⟨hk, hk.2⟩ : _ ∧ k_ ≠ gb214))) (fun _ hk => hk.2) (.int .u64 t203)) (fun _ hk => hk.2) (.int .u64 t204)) (fun _ hk => hk.2) (.int .u64 t205)) (fun _ hk => hk.2) (.int .u64 t206)) (fun _ hk => hk.2) (.int .u64 t207)) (fun _ hk => hk.2) (.int .u64 t208)) (fun _ h_ => h_.1)))) (by decide) hg); have n2_ := Aside0.mk (blk_grown (g := gb214) (o := .cells #[.int .u64 t203, .int .u64 t204, .int .u64 t205, .int .u64 t206, .int .u64 t207, .int .u64 t208] 30 (0, 0)) (by (with_reducible repeat (first | refine blk_drewN ?_ _ | refine blk_drew ?_ | refine blk_alloc ?_ _)); refine blk_put (cs := #[.int .u64 t203, .int .u64 t204, .int .u64 t205, .int .u64 t206, .int .u64 t207, .int .u64 0]) ?_ 5 _ rfl; (with_reducible repeat (first | refine blk_drewN ?_ _ | refine blk_drew ?_ | refine blk_alloc ?_ _)); refine blk_put (cs := #[.int .u64 t203, .int .u64 t204, .int .u64 t205, .int .u64 t206, .int .u64 0, .int .u64 0]) ?_ 4 _ rfl; (with_reducible repeat (first | refine blk_drewN ?_ _ | refine blk_drew ?_ | refine blk_alloc ?_ _)); refine blk_put (cs := #[.int .u64 t203, .int .u64 t204, .int .u64 t205, .int .u64 0, .int .u64 0, .int .u64 0]) ?_ 3 _ rfl; (with_reducible repeat (first | refine blk_drewN ?_ _ | refine blk_drew ?_ | refine blk_alloc ?_ _)); refine blk_put (cs := #[.int .u64 t203, .int .u64 t204, .int .u64 0, .int .u64 0, .int .u64 0, .int .u64 0]) ?_ 2 _ rfl; (with_reducible repeat (first | refine blk_drewN ?_ _ | refine blk_drew ?_ | refine blk_alloc ?_ _)); refine blk_put (cs := #[.int .u64 t203, .int .u64 0, .int .u64 0, .int .u64 0, .int .u64 0, .int .u64 0]) ?_ 1 _ rfl; (with_reducible repeat (first | refine blk_drewN ?_ _ | refine blk_drew ?_ | refine blk_alloc ?_ _)); refine blk_put (cs := #[.int .u64 0, .int .u64 0, .int .u64 0, .int .u64 0, .int .u64 0, .int .u64 0]) ?_ 0 _ rfl; (with_reducible repeat (first | refine blk_drewN ?_ _ | refine blk_drew ?_ | refine blk_alloc ?_ _)); exact BK214.out) hg (Kd.R_away HO_5.out (fun _ hk => hk.2))); have n3_ := Aside0.mk (hb); have n4_ := Aside0.mk (ho); clear HO_6; clear HO211; clear BK214; clear HB; clear HO_5; have HO_6 := n0_; have HO211 := n1_; have BK214 := n2_; have HB := n3_; have HO217 := n4_; clear n0_ n1_ n2_ n3_ n4_; clear ho hb hg hat; obtain ⟨Ao12, co12, eo12⟩ := Kd.R_slice HO211.out; subst eo12) | ((with_reducible refine gate_builtin (b := .append) (xs := #[.tmp 26, .tmp 28]) rfl ?_); at_builtin; refine Kd.S_append (Kd.slice 9 Kd.string) (w0 := w) w.heap.size rfl (.tmp 26) (.tmp 28) 41 24 (.slice none 0 0) 24 rfl Tryd.underlying41 info24 rfl (by decide) (by omega) u6 x6_1 t209 [.slice Ao12 t209.length co12] (fun _ => True) (fun k_ => some k_ = (.slice Ao12 t209.length co12 : Value).ownBlock) rfl rfl ?aP (fun k_ hk_ => ((Kd.R_mono (ok' := fun k_ => ((fun _ => True)) k_ ∧ some k_ ≠ (u6 : Value).ownBlock) (Kd.R_apart' (HO211.out) (Kd.S_typed HO_6.out) (by decide)) (fun k_ hk => ⟨trivial, hk.2⟩))).1 k_ hk_.symm) ?aF ?aO ?aB ?aS ?aL ?_; (case aP => exact Kd.M_row (Kd.R_mono (Kd.R_tight rfl (Kd.R_mono (ok' := fun k_ => ((fun _ => True)) k_ ∧ some k_ ≠ (u6 : Value).ownBlock) (Kd.R_apart' (HO211.out) (Kd.S_typed HO_6.out) (by decide)) (fun k_ hk => ⟨trivial, hk.2⟩))) (fun _ h_ => h_))); (case aB => exact (by repeat (first | (with_reducible first | exact HB.out | apply below_alloc | apply pw_below_drewN | apply below_drew1 | refine below_set ?_ GE214.out) | exact HB.out))); (case aF => exact (fun _ _ => trivial)); (case aO => exact (by (with_reducible repeat (first | apply Kd.S_alloc | apply Kd.S_drewN | apply Kd.S_drew)); exact Kd.S_mono HO_6.out (fun k_ hk => ⟨trivial, fun e_ => hk.2 e_⟩))); (case aS => exact (below_size (by repeat (first | (with_reducible first | exact HB.out | apply below_alloc | apply pw_below_drewN | apply below_drew1 | refine below_set ?_ GE214.out) | exact HB.out)))); (case aL => have := LMc6.out; omega); intro v219 w11 ho hb hg hat; rw [← Ny218.out] at ho; have n0_ := Aside0.mk (blk_grown (g := gb214) (o := .cells #[.int .u64 t203, .int .u64 t204, .int .u64 t205, .int .u64 t206, .int .u64 t207, .int .u64 t208] 30 (0, 0)) (by (with_reducible repeat (first | refine blk_drewN ?_ _ | refine blk_drew ?_ | refine blk_alloc ?_ _)); exact BK214.out) hg (Kd.S_ne HO_6.out BK214.out (by decide))); have n1_ := Aside0.mk (Kd.R_over' (by (with_reducible repeat (first | apply Kd.R_alloc | apply Kd.R_drewN | apply Kd.R_drew)); exact HO217.out) (Kd.S_typed (by (with_reducible repeat (first | apply Kd.S_alloc | apply Kd.S_drewN | apply Kd.S_drew)); exact HO_6.out)) (by decide) hg); have n2_ := Aside0.mk (hb); have n3_ := Aside0.mk (ho); clear BK214; clear HO217; clear HB; clear HO_6; clear HO211; have BK214 := n0_; have HO217 := n1_; have HB := n2_; have HO220 := n3_; clear n0_ n1_ n2_ n3_; clear ho hb hg hat))
              go_roundg k1
              case measure => have := HK1.out; omega
              case rel => exact ⟨(t212), (y215), (y218), (by first | rfl | (simp; done) | (simp [*]; done) | exact isEmpty_bne _), H', ⟨by have := HK1.out; omega⟩, ⟨by (with_reducible repeat (first | apply Kd.R_alloc | apply Kd.R_drewN | apply Kd.R_drew)); exact Kd.R_mono HO217.out (fun _ hk => trivial)⟩, ⟨by (with_reducible repeat (first | apply Kd.S_alloc | apply Kd.S_drewN | apply Kd.S_drew)); exact HO220.out⟩, ⟨by repeat (first | (with_reducible first | exact HB.out | apply below_alloc | apply pw_below_drewN | apply below_drew1 | refine below_set ?_ GE214.out) | exact HB.out)⟩⟩
            · rw [if_neg c6] at H
              exact absurd H (by simp)
          · rw [if_neg c5] at H
            exact absurd H (by simp)
        · replace c4 := Bool.eq_false_iff.mpr c4
          subst c4
          have H1 : (some (([] : List (S30)), ([] : List (List ByteArray)), false)) = some (r1, r2, r3) := by rw [if_neg (show ¬ (false = true) by decide)] at H; exact H
          clear H
          have H := H1
          clear H1
          simp only [Option.some.injEq, Prod.mk.injEq] at H
          obtain ⟨rfl, rfl, rfl⟩ := H
          go_wp2_with (first | ((with_reducible refine gate_callee (f := 13) rfl ?_); refine goesL_ (some 15) rfl rfl Tryd.func13 (by kernel_rfl) rfl #[.string x0_1] rfl (by (try simp only [List.map_toArray, List.map_cons, List.map_nil]); first | done | rfl | (simp only [List.length_drop, List.length_take]; rfl)) ?_; (with_reducible refine (export_Read.calls k1 x0_1 t203 t204 t205 t206 t207 t208 t209 t212 false _ A3.out).mono ?_); rintro e w13 ⟨v210, rfl, ho0, hb⟩; refine ⟨_, rfl, ?_⟩; have n0_ := Aside0.mk (Kd.R_below (by (with_reducible repeat (first | apply Kd.R_alloc | apply Kd.R_drewN | apply Kd.R_drew)); exact HO_5.out) hb); have n1_ := Aside0.mk (Kd.S_elder' (by (with_reducible repeat (first | apply Kd.S_alloc | apply Kd.S_drewN | apply Kd.S_drew)); exact HO_6.out) (Kd.R_base ho0) hb); have n2_ := Aside0.mk (Kd.R_lower ho0 (below_size (by repeat (first | (with_reducible first | exact HB.out | apply below_alloc | apply pw_below_drewN | apply below_drew1) | exact HB.out)))); have n3_ := Aside0.mk (below_step (by repeat (first | (with_reducible first | exact HB.out | apply below_alloc | apply pw_below_drewN | apply below_drew1) | exact HB.out)) hb); clear HO_5; clear HO_6; clear HB; have HO_5 := n0_; have HO_6 := n1_; have HO211 := n2_; have HB := n3_; clear n0_ n1_ n2_ n3_; (try clear hb); (try clear hb2); (try clear hk); (try clear hi); (try clear ho0)) | ((with_reducible refine gate_dst (N := 7) rfl ?_); refine box_event ?hg (N := 7) ?hd (cs := #[.int .u64 0, .int .u64 0, .int .u64 0, .int .u64 0, .int .u64 0, .int .u64 0]) (t := 30) ?hr ?_; (case hd => rfl); (case hg => rfl); (case hr => first | (go_simp; done) | (go_simp; rfl)); intro gb214 hg w14 hbox hb; have n0_ := Aside0.mk (Kd.R_below (Kd.R_elderB (by (with_reducible repeat (first | apply Kd.R_alloc | apply Kd.R_drewN | apply Kd.R_drew)); exact HO_5.out) gb214 (Nat.le_of_eq hg.symm)) hb); have n1_ := Aside0.mk (Kd.S_below (by (with_reducible repeat (first | apply Kd.S_alloc | apply Kd.S_drewN | apply Kd.S_drew)); exact HO_6.out) hb); have n2_ := Aside0.mk (Kd.R_below (by (with_reducible repeat (first | apply Kd.R_alloc | apply Kd.R_drewN | apply Kd.R_drew)); exact HO211.out) hb); have n3_ := Aside0.mk (below_step (by repeat (first | (with_reducible first | exact HB.out | apply below_alloc | apply pw_below_drewN | apply below_drew1) | exact HB.out)) hb); have n4_ := Aside0.mk (hbox); have n5_ := Aside0.mk ((by rw [hg]; exact (below_size (by repeat (first | (with_reducible first | exact HB.out | apply below_alloc | apply pw_below_drewN | apply below_drew1) | exact HB.out))) : w.heap.size ≤ gb214)); have n6_ := Aside0.mk ((by rw [hg]; exact (below_size (by repeat (first | (with_reducible first | exact HB.out | apply below_alloc | apply pw_below_drewN | apply below_drew1) | exact HB.out))) : w.heap.size ≤ gb214)); clear HO_5; clear HO_6; clear HO211; clear HB; have HO_5 := n0_; have HO_6 := n1_; have HO211 := n2_; have HB := n3_; have BK214 := n4_; have GW214 := n5_; have GE214 := n6_; clear n0_ n1_ n2_ n3_ n4_ n5_ n6_; clear hb hbox hg; have hcz15_0 : w14.cell? ⟨gb214, 0, none⟩ = some (.int .u64 0) := (blk_cell BK214.out 0).trans rfl; have hcz15_1 : w14.cell? ⟨gb214, 1, none⟩ = some (.int .u64 0) := (blk_cell BK214.out 1).trans rfl; have hcz15_2 : w14.cell? ⟨gb214, 2, none⟩ = some (.int .u64 0) := (blk_cell BK214.out 2).trans rfl; have hcz15_3 : w14.cell? ⟨gb214, 3, none⟩ = some (.int .u64 0) := (blk_cell BK214.out 3).trans rfl; have hcz15_4 : w14.cell? ⟨gb214, 4, none⟩ = some (.int .u64 0) := (blk_cell BK214.out 4).trans rfl; have hcz15_5 : w14.cell? ⟨gb214, 5, none⟩ = some (.int .u64 0) := (blk_cell BK214.out 5).trans rfl; have hfz15_0 := blk_frozen BK214.out 0; have hfz15_1 := blk_frozen BK214.out 1; have hfz15_2 := blk_frozen BK214.out 2; have hfz15_3 := blk_frozen BK214.out 3; have hfz15_4 := blk_frozen BK214.out 4; have hfz15_5 := blk_frozen BK214.out 5))
          go_ret3
          exact ⟨_, _, by first | rfl | (simp [errW_none, errW_some] <;> rfl) | (simp [*, errW_none, errW_some] <;> rfl), by first | exact Kd.R_nil _ _ _ _ _ | exact Kd.N_nil _ _ _ _ _ | exact Kd.V_nil _ _ _ _ _ | exact Kd.Q_nil _ _ _ _ _ | exact Kd.S_nil _ _ _ _ _, by first | exact Kd.S_nil _ _ _ _ _ | exact Kd.N_nil _ _ _ _ _ | exact Kd.V_nil _ _ _ _ _ | exact Kd.Q_nil _ _ _ _ _ | exact Kd.R_nil _ _ _ _ _, by repeat (first | (with_reducible first | exact HB.out | apply below_alloc | apply pw_below_drewN | apply below_drew1 | refine below_set ?_ GE214.out) | exact HB.out)⟩

end Go.Proofs.YtbbegchdlkmebaaDoor.PExportBack
