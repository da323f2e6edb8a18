-- LAID BY gprint.py: a scratch copy of the print, with functions that this session proved by hand among the printed ones
import Derived.Test.YtajlgbonapfckaaPExprAsksx0
import Derived.Test.YtajlgbonapfckaaPExprAsksx1
import Derived.Test.YtajlgbonapfckaaPExprAsksx2
import Derived.Test.YtajlgbonapfckaaPExprAsksx4
import Derived.Test.YtajlgbonapfckaaPExprAsksx6
import Derived.Test.YtajlgbonapfckaaPExprAsksx7
import Derived.Test.YtajlgbonapfckaaPExprAsksx8
namespace Go.Proofs.Ytajlgbonapfckaa.PExprAsks
open Go.RowKit Go.Proofs.YtajlgbonapfckaaW.PrintWords Go.Proofs.YtajlgbonapfckaaW.PrintLast Go.Proofs.Ytajlgbonapfckaa.Conv Go.Proofs.YtajlgbonapfckaaW.PrintMore
attribute [local go_sem] max2_int min2_int max_two min_two max_three min_three max_four min_four gtr_less   -- for this text's walks alone
set_option linter.unusedVariables false
set_option linter.unusedSimpArgs false

-- GIVEN rounds=1 making=1 needs=logbook/logbooklaw26.does,logbook/logbooklaw26.awake,logbook/logbookref04.Check,(*logbook/logbookref26.Expr).Is,(*logbook/expr.Expr).Is
/-! ### logbooklaw26.ExprAsks: by hand -/
theorem refis_R (k : Nat) (B g : Nat) (rows : List S61) (lv ch : Int) (A1 : Option Addr) (c1 : Nat) (l1 : List ByteArray) (r : Bool × Int × Int) (w : World) (hI : IsR w B g rows lv ch) (hr1 : Kd.C Kd.string w A1 l1.length l1) (hc1 : l1.length ≤ c1) (hf1 : ∀ ad, A1 = some ad → 0 < l1.length → ad.block ≠ g) (h : logbookref26_Expr_Is.f k rows lv ch l1 = some r) :
    Calls Try.prog 11 #[.pointer (some ⟨g, 0, none⟩), .slice A1 l1.length c1] w fun e w' => e = .returned (.bool r.1) ∧ IsR w' B g rows r.2.1 r.2.2 ∧ RKeep B g w w' := by
  obtain ⟨A, c, hv, ho, hB⟩ := hI.open_
  obtain ⟨r1, r2, r3⟩ := r
  refine (logbookref26_Expr_Is.calls (RA := A) (RC := c) k g rows lv ch A1 c1 l1 r1 r2 r3 { w with heap := #[] } w (IsR.state hv ho (Nat.zero_le _)) ⟨rfl, rfl, rfl, Nat.zero_le _, fun k hk => absurd hk (Nat.not_lt_zero _)⟩ hr1 hc1 hf1 h).mono ?_
  rintro e w' ⟨rfl, hs, hb, hk⟩
  exact ⟨rfl, IsR.again hv ho hB hs hk, RKeep.of_but hk (B := 0) ⟨hb.os, hb.tape, hb.output, hk.1, fun k hk => absurd hk (Nat.not_lt_zero _)⟩⟩
/-- the checked lists: none: the statement lets these go -/
def chkL (k : Nat) : List (List ByteArray) → List (List ByteArray) → Option (Option (List (List ByteArray)))
  | [], acc => some (some acc)
  | c :: t, acc => if (c.length : Int) > 20 then some none else (logbookref04_Check.f k c).bind fun x => if x.2 = 0 then (if acc.length ≤ 100 then chkL k t (acc ++ [x.1]) else none) else chkL k t acc
/-- both asked of every list -/
def isAll (k : Nat) : List (List ByteArray) → TwoS → Option (Bool × TwoS)
  | [], t => some (true, t)
  | c :: r, t => (expr_Expr_Is.f k t.L c).bind fun a => (logbookref26_Expr_Is.f k t.rows t.lv t.ch c).bind fun b => if a = b.1 then isAll k r ⟨t.L, t.n, t.rows, b.2.1, b.2.2⟩ else some (false, t)
/-- all acts: false: they part -/
def actL (k : Nat) (lists : List (List ByteArray)) : List S35 → TwoS → Option Bool
  | [], _ => some true
  | a :: r, t => if (a.f1.size : Int) > 1500 then some true else (logbooklaw26_does.f k a.f0 a.f1 t).bind fun x => if x.2 = true then (isAll k lists x.1).bind fun y => if y.1 = true then actL k lists r y.2 else some false else some false
def logbooklaw26_ExprAsks.f (k : Nat) (l : List S35) (items : List (List ByteArray)) : Option Bool :=
  (logbooklaw26_awake.f k).bind fun aw => if aw = true then (chkL k (items.take 6) []).bind fun o => match o with
    | none => some true
    | some lists => actL k lists (l.take 40) ⟨[[[]]], 0, [], 0, 0⟩
  else some false
theorem chkL_mono (k : Nat) : ∀ (l acc : List (List ByteArray)), LeO (chkL k l acc) (chkL (k + 1) l acc)
  | [], _ => LeO.refl _
  | c :: t, acc => LeO.ite (LeO.refl _) (LeO.bind (logbookref04_Check.mono c k) (fun x => LeO.ite (LeO.ite (chkL_mono k t _) (LeO.refl _)) (chkL_mono k t acc)))
theorem isAll_mono (k : Nat) : ∀ (l : List (List ByteArray)) (t : TwoS), LeO (isAll k l t) (isAll (k + 1) l t)
  | [], _ => LeO.refl _
  | c :: r, t => LeO.bind (expr_Expr_Is.mono _ _ k) (fun a => LeO.bind (logbookref26_Expr_Is.mono _ _ _ _ k) (fun b => LeO.ite (isAll_mono k r _) (LeO.refl _)))
theorem actL_mono (k : Nat) (lists : List (List ByteArray)) : ∀ (l : List S35) (t : TwoS), LeO (actL k lists l t) (actL (k + 1) lists l t)
  | [], _ => LeO.refl _
  | a :: r, t => LeO.ite (LeO.refl _) (LeO.bind (logbooklaw26_does.mono _ _ _ k) (fun x => LeO.ite (LeO.bind (isAll_mono k lists _) (fun y => LeO.ite (actL_mono k lists r _) (LeO.refl _))) (LeO.refl _)))
theorem logbooklaw26_ExprAsks.mono : ∀ l items k, LeO (logbooklaw26_ExprAsks.f k l items) (logbooklaw26_ExprAsks.f (k + 1) l items) := fun l items k =>
  LeO.bind (logbooklaw26_awake.mono k) (fun aw => LeO.ite (LeO.bind (chkL_mono k _ _) (fun o => by cases o; exact LeO.refl _; exact actL_mono k _ _ _)) (LeO.refl _))
abbrev T00 : TwoS := ⟨[[[]]], 0, [], 0, 0⟩
theorem take_drop_cons {α : Type} (l : List α) (m q : Nat) (d : α) (h : q < l.length) (h2 : q < m) : (l.take m).drop q = l.getD q d :: (l.take m).drop (q + 1) := by
  rw [List.drop_eq_getElem_cons (by rw [List.length_take]; omega), List.getElem_take, List.getD_eq_getElem?_getD, List.getElem?_eq_getElem h, Option.getD_some]
theorem take_drop_nil {α : Type} (l : List α) (m q : Nat) (h : l.length ≤ q ∨ m ≤ q) : (l.take m).drop q = [] := List.drop_of_length_le (by rw [List.length_take]; omega)
theorem Two.mono {w : World} {B gx gr : Nat} {ok ok' : Nat → Prop} {t : TwoS} (h : Two w B gx gr ok t) (hok : ∀ k, ok k → ok' k) : Two w B gx gr ok' t := ⟨h.1.mono hok, h.2⟩
theorem chInfo2 : (Try.prog.info? 31).map (fun i => (i.zero, i.size, i.bytes)) = some (some (.slice none 0 0), 1, 24) := by kernel_rfl
theorem below_of_grown {W w1 : World} {B : Nat} {row : Option Nat} (hg : W.grownBy w1 row) (hB : B ≤ W.heap.size) (hr : ∀ k, row = some k → B ≤ k) : Below B W w1 :=
  ⟨hg.os, hg.tape, hg.output, hg.size, fun k hk => hg.block k (by omega) (fun he => by have := hr k he.symm; omega)⟩
/-- a row of lists is appended to: neither state is touched -/
theorem Two.grown {W w1 : World} {B gx gr N : Nat} {t : TwoS} {v : Value} {xs : List (List ByteArray)} {ok : Nat → Prop} (h : Two W B gx gr (fun k => k < N) t) (hgx : gx < N) (hgr : gr = N) (ho : Kd.R dCh 31 W (N + 1) ok v xs) (hg : W.grownBy w1 v.ownBlock) : Two w1 B gx gr (fun k => k < N) t := by
  have hb := Kd.R_base ho
  have ht := Kd.R_typed ho
  obtain ⟨⟨x, hx, sx, bx⟩, ⟨y, hy, ry, bY⟩⟩ := h
  refine ⟨⟨x, blk_grown hx hg (fun he => by have := hb gx he.symm; omega), Kd.S_grown sx hg (fun k hk he => by have := hb k he.symm; omega), bx⟩, ⟨y, blk_grown hy hg (fun he => by have := hb gr he.symm; omega), Kd.R_mono (Kd.R_move (Kd.R_bound ry) (fun k hk2 => ?_)) (fun _ _ => trivial), bY⟩⟩
  obtain ⟨_, _, hlt, q, hq, cs, hcs⟩ := hk2
  refine hg.block k hlt (fun he => ?_)
  obtain ⟨cs2, hcs2⟩ := ht k he.symm
  rw [hcs] at hcs2
  injection hcs2 with hcs2
  injection hcs2 with _ hcs2
  have : q ∈ ([61] : List Nat) := hq
  have h61 : q = 61 := by simpa using this
  rw [h61] at hcs2
  exact absurd hcs2 (by decide)
theorem lists_keep {w w1 : World} {B gx gr N M : Nat} {v : Value} {xs : List (List ByteArray)} (h : Kd.R dCh 31 w (N + 1) (fun k => k < M) v xs) (hd : DKeep B (fun k => (k < N ∨ M ≤ k) ∧ B ≤ k) gx gr w w1) (hgx : gx < N) (hgr : gr = N) : Kd.R dCh 31 w1 (N + 1) (fun k => k < M) v xs := by
  refine Kd.R_mono (Kd.R_move (Kd.R_bound h) (fun k hk => ?_)) (fun _ hk => hk.1)
  obtain ⟨h1, h2, h3, q, hq, cs, hcs⟩ := hk
  refine hd.block k h3 (by omega) (by omega) (Or.inl (fun h_ => by omega)) (Or.inr (fun cs2 he => ?_))
  rw [hcs] at he
  injection he with he
  injection he with _ he
  have hq2 : q = 31 ∨ q = 9 := by
    have : q ∈ ([31, 9] : List Nat) := hq
    simpa using this
  rcases hq2 with rfl | rfl <;> exact absurd he (by decide)
theorem DKeep.below {B gx gr : Nat} {ok : Nat → Prop} {w w1 : World} (hd : DKeep B (fun k => ok k ∧ B ≤ k) gx gr w w1) (hB : B ≤ w.heap.size) (hgx : B ≤ gx) (hgr : B ≤ gr) : Below B w w1 :=
  ⟨hd.os, hd.tape, hd.output, hd.size, fun k hk => hd.block k (by omega) (by omega) (by omega) (Or.inl (fun h_ => by omega)) (Or.inl hk)⟩
theorem Two.lo {w : World} {B gx gr : Nat} {ok : Nat → Prop} {t : TwoS} (h : Two w B gx gr ok t) : B ≤ gx ∧ B ≤ gr := by
  obtain ⟨⟨_, _, _, h1⟩, ⟨_, _, _, h2⟩⟩ := h
  exact ⟨h1, h2⟩
theorem rd35 (l : List S35) (q : Nat) : rd_T35 l (q : Int) = l.getD q z35 := by
  unfold rd_T35
  rw [Int.toNat_natCast]
set_option maxRecDepth 100000 in
set_option maxHeartbeats 12800000 in
theorem logbooklaw26_ExprAsks.calls (k : Nat) (A0 : Option Addr) (c0 : Nat) (l0 : List S35) (A1 : Option Addr) (c1 : Nat) (l1 : List (List ByteArray)) (r : Bool) (w : World) (hr0 : Kd.C k35 w A0 l0.length l0) (hc0 : l0.length ≤ c0) (hr1 : Kd.C (Kd.slice 9 Kd.string) w A1 l1.length l1) (hc1 : l1.length ≤ c1) (h : logbooklaw26_ExprAsks.f k l0 l1 = some r) :
    Calls Try.prog 3 #[.slice A0 l0.length c0, .slice A1 l1.length c1] w fun e w' => e = .returned (.bool r) ∧ Below w.heap.size w w' := by
  unfold logbooklaw26_ExprAsks.f at h
  have HR0 := Lib.hid hr0
  have HR1 := Lib.hid hr1
  have hm0 := hr0.2.1
  have hm1 := hr1.2.1
  have hu35 := Try.underlying35
  cases ha : logbooklaw26_awake.f k with
  | none => rw [ha] at h; cases h
  | some aw =>
  rw [ha] at h
  cases aw
  · have h2 : some false = some r := h
    cases h2
    have HA := Lib.hid ha
    clear ha h hr0 hr1 hc0 hc1
    go_enter Try.func3, Try.ntmps3
    go_wp2_with (first | (go_at_call 6; (with_reducible refine (logbooklaw26_awake.calls k false _ HA.out).mono ?_); rintro e w1 ⟨rfl, hb⟩; have HB := Lib.hid hb; clear hb))
    go_ret
    exact ⟨rfl, HB.out⟩
  cases ho : chkL k (l1.take 6) [] with
  | none =>
    have h2 : (chkL k (l1.take 6) []).bind _ = _ := h
    rw [ho] at h2
    cases h2
  | some o =>
  have h2 : (chkL k (l1.take 6) []).bind (fun o => match o with | none => some true | some lists => actL k lists (l0.take 40) T00) = some r := h
  rw [ho] at h2
  have HA := Lib.hid ha
  have HO := Lib.hid ho
  have HH := Lib.hid h2
  clear ha h ho h2 hr0 hr1 hc0 hc1
  go_enter Try.func3, Try.ntmps3
  go_wp2_with (first
    | (go_at_call 6; (with_reducible refine (logbooklaw26_awake.calls k true _ HA.out).mono ?_); rintro e w1 ⟨rfl, hb⟩; have HB := Lib.hid hb; clear hb)
    | (go_at_call 7; (refine (expr_New.makes _).mono ?_); rintro e w2 ⟨gx, rfl, hx, hg, hb⟩; have HX := Lib.hid hx; have HG := Lib.hid hg; have HB2 := Lib.hid hb; clear hx hg hb))
  rename World => W2
  have hs1 : w.heap.size ≤ W2.heap.size := Nat.le_trans HB.out.size HB2.out.size
  have hbel2 : Below w.heap.size w W2 := HB.out.trans (HB2.out.mono HB.out.size)
  have hrb := blk_new W2 (.cells #[.slice none 0 0, .int .i64 0, .int .i64 0] 30)
  have HT0 := Lib.hid (show Two (W2.alloc (.cells #[.slice none 0 0, .int .i64 0, .int .i64 0] 30)) w.heap.size gx W2.heap.size (fun k => k < W2.heap.size) T00 from
    ⟨by
      obtain ⟨v, q1, q2, q3⟩ := (HX.out.below (below_alloc (Below.refl _ _) (.cells #[.slice none 0 0, .int .i64 0, .int .i64 0] 30))).mono (ok' := fun k => k < W2.heap.size) (fun k hk => hk.1)
      exact ⟨v, q1, Kd.S_lower q2 HB.out.size, Nat.le_trans HB.out.size q3⟩, ⟨_, hrb, Kd.R_nil _ _ _ _ _, hs1⟩⟩)
  have HBW := Lib.hid (below_alloc hbel2 (.cells #[.slice none 0 0, .int .i64 0, .int .i64 0] 30))
  have HSZ := Lib.hid (show (W2.alloc (.cells #[.slice none 0 0, .int .i64 0, .int .i64 0] 30)).heap.size = W2.heap.size + 1 from World.size_alloc _ _)
  have HGX := Lib.hid (show gx < W2.heap.size from HG.out)
  have HS1 := Lib.hid hs1
  clear hs1 hbel2 hrb
  go_wp2
  go_loopw [8, 7] (fun i lv wr => ∃ (q : Nat) (acc : List (List ByteArray)), q ≤ l1.length ∧ q ≤ 6 ∧ acc.length ≤ q ∧ i = .int .i64 q ∧ Hid (chkL k ((l1.take 6).drop q) acc = some o) ∧ Hid (Kd.R dCh 31 wr (W2.heap.size + 1) (fun _ => True) lv acc) ∧ Hid (Two wr w.heap.size gx W2.heap.size (fun k => k < W2.heap.size) T00) ∧ Hid (Below w.heap.size w wr) ∧ Hid (W2.heap.size + 1 ≤ wr.heap.size)) (fun i _ _ => 6 - (intOf i).toNat)
  case atStart => exact ⟨0, [], Nat.zero_le _, Nat.zero_le _, Nat.le_refl _, rfl, HO, Lib.hid (Kd.R_nil _ _ _ _ _), HT0, HBW, Lib.hid (Nat.le_of_eq HSZ.out.symm)⟩
  case round =>
    obtain ⟨q, acc, hq, hq6, hacl, rfl, hch, hrow, htw, hbel, hsz⟩ := hrel
    have q0 : (0 : Int) ≤ (q : Int) := Int.natCast_nonneg _
    by_cases hq1 : q < l1.length ∧ q < 6
    · have hi1 : (q : Int) < (l1.length : Int) := by omega
      have hi2 : (q : Int) < 6 := by omega
      obtain ⟨ad, cc1, rfl, hcc1, ⟨Ac, cc, rfl, hccl, hC⟩, z1⟩ := ReadsRow.get_ (Kd.C_below HR1.out hbel.out) [] (q : Int) (by omega) (by omega)
      have y1 := z1 0 _ rfl
      rw [Int.toNat_natCast] at y1 hccl hC
      have u1 : ad.add (q * (Kd.slice 9 Kd.string).sz + 0) = ad.add q := by
        show ad.add (q * 1 + 0) = ad.add q
        rw [Nat.mul_one, Nat.add_zero]
      rw [u1] at y1
      have hd := take_drop_cons l1 6 q [] hq1.1 hq1.2
      have hz2 := hch.out
      rw [hd, chkL] at hz2
      rw [Int.toNat_natCast] at z1
      generalize l1.getD q [] = c at hccl hC hz2 z1 y1
      have HCC := Lib.hid hccl
      have HCR := Lib.hid hC
      clear hd hcc1 z1 u1 hccl hC
      by_cases h20 : (c.length : Int) > 20
      · rw [if_pos h20] at hz2
        cases hz2
        have hh := HH.out
        have hh2 : some true = some r := hh
        cases hh2
        go_wp2_with (first
          | (go_at_call 6; (with_reducible refine (logbooklaw26_awake.calls k true _ HA.out).mono ?_); rintro e w1 ⟨rfl, hb⟩; have HB9 := Lib.hid hb; clear hb))
        go_ret
        exact ⟨rfl, hbel.out.trans (HB9.out.mono hbel.out.size)⟩
      rw [if_neg h20] at hz2
      cases hck : logbookref04_Check.f k c with
      | none => rw [hck] at hz2; cases hz2
      | some x =>
      rw [hck] at hz2
      obtain ⟨rl, ec⟩ := x
      have HCK := Lib.hid hck
      have hz3 : (if ec = 0 then (if acc.length ≤ 100 then chkL k ((l1.take 6).drop (q + 1)) (acc ++ [rl]) else none) else chkL k ((l1.take 6).drop (q + 1)) acc) = some o := hz2
      obtain ⟨Al, cl, rfl⟩ := Kd.R_slice hrow.out
      have hs1 : w.heap.size ≤ W2.heap.size := HS1.out
      clear hz2 hck
      by_cases he0 : ec = 0
      · rw [if_pos he0] at hz3
        subst he0
        by_cases h100 : acc.length ≤ 100
        case neg =>
          rw [if_neg h100] at hz3
          cases hz3
        rw [if_pos h100] at hz3
        have HN := Lib.hid hz3
        have HCAP := Lib.hid (show (acc.length + 1) * 24 ≤ 140737488355328 by omega)
        clear hz3
        go_wp2_with (first
          | (go_at_call 8; (refine (logbookref04_Check.calls k Ac cc c rl 0 _ HCR.out HCC.out HCK.out).mono ?_); rintro e w4 ⟨v4, rfl, hr4, hb4⟩; obtain ⟨A4, c4, rfl⟩ := Kd.R_slice hr4; have HR4 := Lib.hid hr4; have HB4 := Lib.hid hb4; clear hr4 hb4)
          | (at_builtin; refine Kd.R_append dCh (w0 := w4) (W2.heap.size + 1) rfl (.tmp 45) (.tmp 47) 23 31 (.slice none 0 0) 24 rfl Try.underlying23 chInfo2 rfl (by decide) (by omega) (.slice Al acc.length cl) acc rl [.slice A4 rl.length c4] (fun _ => True) (fun k => wr.heap.size ≤ k) rfl rfl ⟨_, rfl, Kd.R_lower (Kd.R_mono (Kd.R_bound HR4.out) (fun k hk => hk.2.1)) hsz.out⟩ (fun k hk => ⟨trivial, fun he => by have := Kd.R_lt hrow.out k he.symm; omega⟩) (fun _ _ => trivial) (Kd.R_below hrow.out HB4.out) (Below.refl _ _) (Nat.le_trans hsz.out HB4.out.size) HCAP.out ?_; intro v1 w5 hv1 hb1 hg1 _; obtain ⟨A5, c5, rfl⟩ := Kd.R_slice hv1; have HR5 := Lib.hid hv1; have HT5 := Lib.hid (Two.grown (htw.out.below HB4.out) HGX.out rfl (Kd.R_below hrow.out HB4.out) hg1); have HB5 := Lib.hid (below_of_grown hg1 (B := w.heap.size) (Nat.le_trans hs1 (Nat.le_trans (Nat.le_succ _) (Nat.le_trans hsz.out HB4.out.size))) (fun k hk => by have := Kd.R_base hrow.out k hk; omega)); have HZ5 := Lib.hid hg1.size; clear hv1 hb1 hg1))
        go_roundw
        case rel =>
          have el : (acc ++ [rl]).length = acc.length + 1 := by simp
          have hr := HR5.out
          rw [el] at hr
          exact ⟨q + 1, acc ++ [rl], by omega, by omega, by rw [el]; omega, by go_num, HN, Lib.hid hr, HT5, Lib.hid (hbel.out.trans ((HB4.out.mono hbel.out.size).trans HB5.out)), Lib.hid (Nat.le_trans hsz.out (Nat.le_trans HB4.out.size HZ5.out))⟩
        case measure => simp [intOf]; omega
      · rw [if_neg he0] at hz3
        have HN := Lib.hid hz3
        clear hz3
        have heb : (ec == 0) = false := beq_eq_false_iff_ne.mpr he0
        go_wp2_with (first
          | (go_at_call 8; (refine (logbookref04_Check.calls k Ac cc c rl ec _ HCR.out HCC.out HCK.out).mono ?_); rintro e w4 ⟨v4, rfl, hr4, hb4⟩; obtain ⟨A4, c4, rfl⟩ := Kd.R_slice hr4; have HR4 := Lib.hid hr4; have HB4 := Lib.hid hb4; clear hr4 hb4))
        go_roundw
        case rel => exact ⟨q + 1, acc, by omega, by omega, by omega, by go_num, HN, Lib.hid (Kd.R_below hrow.out HB4.out), Lib.hid (htw.out.below HB4.out), Lib.hid (hbel.out.trans (HB4.out.mono hbel.out.size)), Lib.hid (Nat.le_trans hsz.out HB4.out.size)⟩
        case measure => simp [intOf]; omega
    · have hz2 := hch.out
      rw [take_drop_nil l1 6 q (by omega)] at hz2
      have hz3 : some (some acc) = some o := hz2
      cases hz3
      have hact : actL k acc (l0.take 40) T00 = some r := HH.out
      have HACT := Lib.hid hact
      clear hz2 hact
      obtain ⟨Al, cl, rfl⟩ := Kd.R_slice hrow.out
      have hcnd : ¬ ((q : Int) < (l1.length : Int) ∧ (q : Int) < 6) := by omega
      have hla : (decide ((q : Int) < (l1.length : Int)) && decide ((q : Int) < 6)) = false := by
        rw [← Bool.decide_and]
        exact decide_eq_false hcnd
      rename World => W3
      have hTW : Hid (Two W3 w.heap.size gx W2.heap.size (fun k => k < W2.heap.size ∨ W3.heap.size ≤ k) T00) := Lib.hid (Two.mono htw.out (fun k hk => Or.inl hk))
      have hROW : Hid (Kd.R dCh 31 W3 (W2.heap.size + 1) (fun k => k < W3.heap.size) (.slice Al acc.length cl) acc) := Lib.hid (Kd.R_mono (Kd.R_bound hrow.out) (fun k hk => hk.2.2.1))
      have HS3 := Lib.hid hsz.out
      have HB3 := Lib.hid hbel.out
      clear htw hrow hbel hsz hch
      have hor : ((q : Int) < (l1.length : Int) ∧ ¬ (q : Int) < 6) ∨ ¬ (q : Int) < (l1.length : Int) := by omega
      rcases hor with ⟨hq6b, hq6c⟩ | hq6b
      all_goals
        go_wp2
        go_loopw [11] (fun i wr => ∃ (q2 : Nat) (t : TwoS), q2 ≤ l0.length ∧ q2 ≤ 40 ∧ i = .int .i64 q2 ∧ Hid (actL k acc ((l0.take 40).drop q2) t = some r) ∧ Hid (Two wr w.heap.size gx W2.heap.size (fun k => k < W2.heap.size ∨ W3.heap.size ≤ k) t) ∧ Hid (Kd.R dCh 31 wr (W2.heap.size + 1) (fun k => k < W3.heap.size) (.slice Al acc.length cl) acc) ∧ Hid (Below w.heap.size w wr) ∧ Hid (W3.heap.size ≤ wr.heap.size)) (fun i _ => 40 - (intOf i).toNat)
        case atStart => exact ⟨0, T00, Nat.zero_le _, Nat.zero_le _, rfl, HACT, hTW, hROW, HB3, Lib.hid (Nat.le_refl _)⟩
        case round =>
          obtain ⟨q2, t, hp, hp40, rfl, hact, htw, hrow, hbel, hsz⟩ := hrel
          have p0 : (0 : Int) ≤ (q2 : Int) := Int.natCast_nonneg _
          by_cases hp1 : q2 < l0.length ∧ q2 < 40
          · have hi1 : (q2 : Int) < (l0.length : Int) := by omega
            have hi2 : (q2 : Int) < 40 := by omega
            obtain ⟨ad, rfl, x0, x1⟩ := at_T35 (Kd.C_below HR0.out hbel.out) (q2 : Int) p0 hi1
            rw [Int.toNat_natCast] at x0 x1
            rw [rd35] at x0 x1
            have hd := take_drop_cons l0 40 q2 z35 hp1.1 hp1.2
            have hz2 := hact.out
            rw [hd, actL] at hz2
            generalize l0.getD q2 z35 = a at x0 x1 hz2
            clear hd hact
            by_cases h15 : (a.f1.size : Int) > 1500
            · rw [if_pos h15] at hz2
              cases hz2
              go_wp2_with (first
                | (go_at_call 6; (with_reducible refine (logbooklaw26_awake.calls k true _ HA.out).mono ?_); rintro e w1 ⟨rfl, hb⟩; have HB9 := Lib.hid hb; clear hb))
              go_ret
              exact ⟨rfl, hbel.out.trans (HB9.out.mono hbel.out.size)⟩
            rw [if_neg h15] at hz2
            cases hdo : logbooklaw26_does.f k a.f0 a.f1 t with
            | none => rw [hdo] at hz2; cases hz2
            | some x =>
            rw [hdo] at hz2
            obtain ⟨t2, b⟩ := x
            have HDO := Lib.hid hdo
            have hz3 : (if b = true then (isAll k acc t2).bind fun y => if y.1 = true then actL k acc ((l0.take 40).drop (q2 + 1)) y.2 else some false else some false) = some r := hz2
            have HFR := Lib.hid (show ∀ k, wr.heap.size ≤ k → (k < W2.heap.size ∨ W3.heap.size ≤ k) from fun k hk => Or.inr (Nat.le_trans hsz.out hk))
            clear hz2 hdo
            cases b
            · have hz4 : some false = some r := hz3
              cases hz4
              go_wp2_with (first
                | (go_at_call 9; (refine (does_calls k w.heap.size gx W2.heap.size _ a.f0 a.f1 t t2 false _ htw.out HFR.out HDO.out).mono ?_); rintro e w6 ⟨rfl, ht6, hd6⟩; have HT6 := Lib.hid ht6; have HD6 := Lib.hid hd6; clear ht6 hd6))
              go_ret
              exact ⟨rfl, hbel.out.trans (DKeep.below HD6.out hbel.out.size (Two.lo htw.out).1 (Two.lo htw.out).2)⟩
            have hz4 : ((isAll k acc t2).bind fun y => if y.1 = true then actL k acc ((l0.take 40).drop (q2 + 1)) y.2 else some false) = some r := hz3
            cases hia : isAll k acc t2 with
            | none => rw [hia] at hz4; cases hz4
            | some y =>
            rw [hia] at hz4
            have HIA := Lib.hid hia
            have HZ := Lib.hid (show (if y.1 = true then actL k acc ((l0.take 40).drop (q2 + 1)) y.2 else some false) = some r from hz4)
            clear hz3 hz4 hia
            go_wp2_with (first
              | (go_at_call 9; (refine (does_calls k w.heap.size gx W2.heap.size _ a.f0 a.f1 t t2 true _ htw.out HFR.out HDO.out).mono ?_); rintro e w6 ⟨rfl, ht6, hd6⟩; have HT6 := Lib.hid ht6; have HD6 := Lib.hid hd6; clear ht6 hd6))
            rename World => W6
            have HB6 := Lib.hid (hbel.out.trans (DKeep.below HD6.out hbel.out.size (Two.lo htw.out).1 (Two.lo htw.out).2))
            have HR6 := Lib.hid (lists_keep hrow.out HD6.out HGX.out rfl)
            have HS6 := Lib.hid (Nat.le_trans hsz.out HD6.out.size)
            go_loopw [12] (fun i wx => ∃ (p : Nat) (t3 : TwoS), p ≤ acc.length ∧ i = .int .i64 p ∧ Hid (isAll k (acc.drop p) t3 = some y) ∧ Hid (Two wx w.heap.size gx W2.heap.size (fun k => k < W2.heap.size ∨ W3.heap.size ≤ k) t3) ∧ Hid (Kd.R dCh 31 wx (W2.heap.size + 1) (fun k => k < W3.heap.size) (.slice Al acc.length cl) acc) ∧ Hid (Below w.heap.size w wx) ∧ Hid (W3.heap.size ≤ wx.heap.size)) (fun i _ => acc.length - (intOf i).toNat)
            case atStart => exact ⟨0, t2, Nat.zero_le _, rfl, HIA, HT6, HR6, HB6, HS6⟩
            case round =>
              clear htw hrow hbel hsz
              obtain ⟨p, t3, hpl, rfl, hia, htw, hrow, hbel, hsz⟩ := hrel
              have pp0 : (0 : Int) ≤ (p : Int) := Int.natCast_nonneg _
              by_cases hp2 : p < acc.length
              · have pi : (p : Int) < (acc.length : Int) := by omega
                have hpw : (p : Int) < 6 := by omega
                obtain ⟨gl, cl2, he, b1, b2, tyl, htyl⟩ := Kd.R_form hrow.out (by omega)
                injection he with he1 _ he2
                subst he1 he2
                obtain ⟨cq, hcq, ⟨vc, hvc, rc⟩, zq⟩ := Kd.R_getA hrow.out [] (p : Int) pp0 pi
                subst hvc
                rw [Int.toNat_natCast] at rc zq
                have yq := zq 0 _ rfl
                have uq : (⟨gl, 0, none⟩ : Addr).add (p * dCh.sz + 0) = ⟨gl, p, none⟩ := by
                  rw [add_at, Nat.zero_add]
                  show (⟨gl, p * 1 + 0, none⟩ : Addr) = _
                  rw [Nat.mul_one, Nat.add_zero]
                rw [uq] at yq
                have hd : acc.drop p = acc.getD p [] :: acc.drop (p + 1) := by
                  rw [List.drop_eq_getElem_cons hp2, List.getD_eq_getElem?_getD, List.getElem?_eq_getElem hp2, Option.getD_some]
                have hz2 := hia.out
                rw [hd, isAll] at hz2
                generalize acc.getD p [] = c at rc hz2
                obtain ⟨Ac, cc, rfl⟩ := Kd.R_slice rc
                have HCR := Lib.hid (Kd.R_reads' rc).2.2
                have HCC := Lib.hid (Kd.R_reads' rc).2.1
                have HCF := Lib.hid (show ∀ ad, Ac = some ad → 0 < c.length → ad.block ≠ W2.heap.size from fun ad ha _ he => by
                  subst ha
                  have := Kd.R_base rc ad.block (by simp [Value.ownBlock])
                  omega)
                have HTY := Lib.hid htyl
                have HGL := Lib.hid (show gl ≠ W2.heap.size by omega)
                clear hd hia hcq zq uq rc b1 b2 htyl
                cases hi1 : expr_Expr_Is.f k t3.L c with
                | none => rw [hi1] at hz2; cases hz2
                | some av =>
                rw [hi1] at hz2
                have hz3 : ((logbookref26_Expr_Is.f k t3.rows t3.lv t3.ch c).bind fun b => if av = b.1 then isAll k (acc.drop (p + 1)) ⟨t3.L, t3.n, t3.rows, b.2.1, b.2.2⟩ else some (false, t3)) = some y := hz2
                cases hi2 : logbookref26_Expr_Is.f k t3.rows t3.lv t3.ch c with
                | none => rw [hi2] at hz3; cases hz3
                | some bv =>
                rw [hi2] at hz3
                obtain ⟨bb, lb, cb⟩ := bv
                have hz4 : (if av = bb then isAll k (acc.drop (p + 1)) ⟨t3.L, t3.n, t3.rows, lb, cb⟩ else some (false, t3)) = some y := hz3
                have HI1 := Lib.hid hi1
                have HI2 := Lib.hid hi2
                have HY := Lib.hid hz4
                clear hz2 hz3 hz4 hi1 hi2
                go_wp2
                go_region_held3 (fun w' => w'.cell? ⟨gl, p, none⟩ = some (.slice Ac c.length cc))
                  (first | assumption | go_keep)
                  (first
                  | (go_at_call 10; (refine (expr_Expr_Is.calls k t3.L t3.n w.heap.size gx _ Ac cc c av _ (Two.drew htw.out).1 (Kd.C_drew HCR.out) HCC.out HI1.out).mono ?_); rintro e w7 ⟨rfl, hb7⟩; have HT7 := Lib.hid ((Two.drew htw.out).below hb7); have HB7 := Lib.hid (show Below _ _ w7 from hb7); have kc7 := cell_later hb7 (by assumption); clear hb7)
                  | (go_at_call 11; (refine (refis_R k w.heap.size W2.heap.size t3.rows t3.lv t3.ch Ac cc c (bb, lb, cb) _ HT7.out.2 (Kd.C_below (Kd.C_drew HCR.out) HB7.out) HCC.out HCF.out HI2.out).mono ?_); rintro e w8 ⟨rfl, hr8, hk8⟩; have HT8 := Lib.hid (HT7.out.stepR hr8 hk8); have HK8 := Lib.hid hk8; have hty7 := blk_below (show wr.drew.heap[gl]? = some (.cells tyl 31 (0, 0)) from HTY.out) HB7.out; have kc8 := (World.cell?_of_block (a := ⟨gl, p, none⟩) (hk8.block gl (blk_lt hty7) HGL.out (Or.inr (fun cs he => by rw [hty7] at he; injection he with he; injection he with _ he; exact absurd he (by decide))))).trans kc7; clear hr8 hk8 hty7))
                all_goals
                  have hb78 : Below wr.heap.size wr w7 := (below_drew (Below.refl _ _)).trans HB7.out
                  have hd78 : DKeep w.heap.size (fun k => (k < W2.heap.size ∨ W3.heap.size ≤ k) ∧ w.heap.size ≤ k) gx W2.heap.size wr w8 := (DKeep.of_below hb78).trans (DKeep.ofR HK8.out)
                  have R8 := Lib.hid (lists_keep hrow.out hd78 HGX.out rfl)
                  have B8 := Lib.hid (hbel.out.trans (DKeep.below hd78 hbel.out.size (Two.lo htw.out).1 (Two.lo htw.out).2))
                  have S8 := Lib.hid (Nat.le_trans hsz.out hd78.size)
                  clear hb78 hd78
                  cases av <;> cases bb
                  all_goals first
                    | (have hy := Lib.hid ((if_pos rfl).symm.trans HY.out)
                       go_wp2
                       go_roundw
                       case rel => exact ⟨p + 1, ⟨t3.L, t3.n, t3.rows, lb, cb⟩, by omega, by go_num, hy, HT8, R8, B8, S8⟩
                       case measure => simp [intOf]; omega)
                    | (have hy := (if_neg (by decide)).symm.trans HY.out
                       cases hy
                       have hz5 : some false = some r := HZ.out
                       cases hz5
                       go_wp2
                       go_ret
                       exact ⟨rfl, B8.out⟩)
              · have hpe : p = acc.length := by omega
                subst hpe
                have hz2 := hia.out
                rw [List.drop_of_length_le (Nat.le_refl _)] at hz2
                have hz3 : some (true, t3) = some y := hz2
                cases hz3
                have hz4 : actL k acc ((l0.take 40).drop (q2 + 1)) t3 = some r := HZ.out
                have HZ4 := Lib.hid hz4
                clear hz2 hz4 hia
                go_wp2
                go_roundw
                case rel => exact ⟨q2 + 1, t3, by omega, by omega, by go_num, HZ4, htw, hrow, hbel, hsz⟩
                case measure => simp [intOf]; omega
          · have hz2 := hact.out
            rw [take_drop_nil l0 40 q2 (by omega)] at hz2
            have hz3 : some true = some r := hz2
            cases hz3
            have hor2 : ((q2 : Int) < (l0.length : Int) ∧ ¬ (q2 : Int) < 40) ∨ ¬ (q2 : Int) < (l0.length : Int) := by omega
            clear hz2 hact
            rcases hor2 with ⟨ha1, ha2⟩ | ha1
            all_goals
              go_wp2_with (first
                | (go_at_call 6; (with_reducible refine (logbooklaw26_awake.calls k true _ HA.out).mono ?_); rintro e w1 ⟨rfl, hb⟩; have HB9 := Lib.hid hb; clear hb))
              go_ret
              exact ⟨rfl, hbel.out.trans (HB9.out.mono hbel.out.size)⟩

end Go.Proofs.Ytajlgbonapfckaa.PExprAsks
