-- LAID BY gprint.py: a scratch copy of the print, with functions that this session proved by hand among the printed ones
import Derived.Test.YtajlgbonapfckaaPExprAsksx0
import Derived.Test.YtajlgbonapfckaaPExprAsksx1
import Derived.Test.YtajlgbonapfckaaPExprAsksx3
import Derived.Test.YtajlgbonapfckaaPExprAsksx4
import Derived.Test.YtajlgbonapfckaaPExprAsksx5
import Derived.Test.YtajlgbonapfckaaPExprAsksx6
namespace Go.Proofs.Ytajlgbonapfckaa.PExprAsks
open Go.RowKit Go.Proofs.YtajlgbonapfckaaW.PrintWords Go.Proofs.YtajlgbonapfckaaW.PrintLast Go.Proofs.Ytajlgbonapfckaa.Conv Go.Proofs.YtajlgbonapfckaaW.PrintMore
attribute [local go_sem] max2_int min2_int max_two min_two max_three min_three max_four min_four gtr_less   -- for this text's walks alone
set_option linter.unusedVariables false
set_option linter.unusedSimpArgs false

-- GIVEN rounds=1 making=1 needs=(*logbook/logbookref26.Expr).Or,logbook/logbookref04.Split
def logbookref26_Expr_Match.f (k : Nat) (s : ByteArray) (rows : List S61) (lv ch : Int) : Option (List S61 × Int) :=
  if (s.size : Int) > 1024 then some (rows, 22) else (logbookref04_Split.f k s).bind fun t => if t.2.2 = true then (if (rows.length : Int) ≥ 16 then some (rows, 29) else some (rows ++ [⟨lv, ch, s⟩], 0)) else some (rows, 23)
theorem logbookref26_Expr_Match.mono : ∀ a0 a1 a2 a3 k, LeO (logbookref26_Expr_Match.f k a0 a1 a2 a3) (logbookref26_Expr_Match.f (k + 1) a0 a1 a2 a3) := fun a0 a1 a2 a3 k => LeO.ite (LeO.refl _) (LeO.bind (logbookref04_Split.mono _ k) (fun r => LeO.refl _))
theorem rowInfo : (Try.prog.info? 61).map (fun i => (i.zero, i.size, i.bytes)) = some (some (.agg #[.int .i64 0, .int .i64 0, .string ⟨#[]⟩]), 3, 32) := by kernel_rfl
theorem IsR.grow {w w1 : World} {B g c : Nat} {A : Option Addr} {rows rows2 : List S61} {lv ch : Int} {v1 : Value} (hv : w.heap[g]? = some (.cells #[.slice A rows.length c, .int .i64 lv, .int .i64 ch] 30 (0, 0))) (ho : Kd.R k61 61 w B (fun _ => True) (.slice A rows.length c) rows) (hB : B ≤ g)
    (hg : w.grownBy w1 (Value.slice A rows.length c).ownBlock) (h1 : Kd.R k61 61 w1 B (fun _ => True) v1 rows2) : IsR (w1.setCell ⟨g, 0, none⟩ v1) B g rows2 lv ch ∧ RKeep B g w (w1.setCell ⟨g, 0, none⟩ v1) := by
  have hvv := blk_grown hv hg (Kd.R_ne ho hv (by decide))
  refine ⟨⟨_, blk_put hvv 0 _ rfl, Kd.R_set h1 hvv (by decide) 0 _, hB⟩, RKeep.trans ⟨hg.os, hg.tape, hg.output, hg.size, fun k hk hkg hx => hg.block k hk (fun he => ?_)⟩ RKeep.own⟩
  obtain ⟨cs, hcs⟩ := Kd.R_typed ho k he.symm
  rcases hx with hx | hx
  · have := Kd.R_base ho k he.symm
    omega
  · exact hx cs hcs
theorem drew_grown0 {w w1 : World} {row : Option Nat} (h : w.drew.grownBy w1 row) : w.grownBy w1 row := ⟨h.os, h.tape, h.output, h.size, h.block⟩
set_option maxHeartbeats 3200000 in
theorem match_R (k : Nat) (B g : Nat) (s : ByteArray) (rows : List S61) (lv ch : Int) (r : List S61 × Int) (w : World) (hI : IsR w B g rows lv ch) (h : logbookref26_Expr_Match.f k s rows lv ch = some r) :
    Calls Try.prog 24 #[.pointer (some ⟨g, 0, none⟩), .string s] w fun e w' => e = .returned (.int .i64 r.2) ∧ IsR w' B g r.1 lv ch ∧ RKeep B g w w' := by
  obtain ⟨A, c, hv, ho, hB⟩ := hI.open_
  have HV := Lib.hid hv
  have HO := Lib.hid ho
  have HBG := Lib.hid hB
  have HI := Lib.hid hI
  have k0 := blk_cell hv 0
  have k1 := blk_cell hv 1
  have k2 := blk_cell hv 2
  have f0 := blk_frozen hv 0
  simp at k0 k1 k2
  have n0 := World.new_ne w _ k0
  have hlt := blk_lt hv
  clear hI hv ho hB
  unfold logbookref26_Expr_Match.f at h
  by_cases h1 : (s.size : Int) > 1024
  · rw [if_pos h1] at h
    cases h
    go_enter Try.func24, Try.ntmps24
    go_wp2
    go_ret
    exact ⟨rfl, HI.out, RKeep.refl _ _ _⟩
  rw [if_neg h1] at h
  cases hs : logbookref04_Split.f k s with
  | none => rw [hs] at h; cases h
  | some t =>
  rw [hs] at h
  obtain ⟨t1, t2, t3⟩ := t
  have HS := Lib.hid hs
  have h2 : (if t3 = true then (if (rows.length : Int) ≥ 16 then some (rows, 29) else some (rows ++ [⟨lv, ch, s⟩], 0)) else some (rows, (23 : Int))) = some r := h
  clear h hs
  cases t3
  · rw [if_neg (by decide)] at h2
    cases h2
    go_enter Try.func24, Try.ntmps24
    go_wp2_with (first | (go_at_call 20; (with_reducible refine (logbookref04_Split.calls k s t1 t2 false _ HS.out).mono ?_); rintro e w' ⟨rfl, ⟨nd, rfl⟩⟩))
    go_ret
    exact ⟨rfl, HI.out.below (pw_below_drewN (Below.refl _ _) _), RKeep.of_but (B := 0) (keep_drewN (KeepBut.refl w g none) _) (pw_below_drewN (Below.refl _ _) _)⟩
  rw [if_pos rfl] at h2
  by_cases h3 : (rows.length : Int) ≥ 16
  · rw [if_pos h3] at h2
    cases h2
    go_enter Try.func24, Try.ntmps24
    go_wp2_with (first | (go_at_call 20; (with_reducible refine (logbookref04_Split.calls k s t1 t2 true _ HS.out).mono ?_); rintro e w' ⟨rfl, ⟨nd, rfl⟩⟩))
    go_ret
    exact ⟨rfl, HI.out.below (pw_below_drewN (Below.refl _ _) _), RKeep.of_but (B := 0) (keep_drewN (KeepBut.refl w g none) _) (pw_below_drewN (Below.refl _ _) _)⟩
  rw [if_neg h3] at h2
  cases h2
  have HCAP := Lib.hid (show (rows.length + 1) * 32 ≤ 140737488355328 by omega)
  go_enter Try.func24, Try.ntmps24
  go_wp2_with (first | (go_at_call 20; (with_reducible refine (logbookref04_Split.calls k s t1 t2 true _ HS.out).mono ?_); rintro e w' ⟨rfl, ⟨nd, rfl⟩⟩))
  rename Nat => nd
  have b1 := HI.out.below (pw_below_drewN (Below.refl w.heap.size w) nd)
  generalize hW : w.drewN nd = W
  have hWk : W.heap = w.heap := by rw [← hW]; rfl
  have q0 : W.cell? ⟨g, 0, none⟩ = some (.slice A rows.length c) := by rw [← hW]; exact k0
  have q1 : W.cell? ⟨g, 1, none⟩ = some (.int .i64 lv) := by rw [← hW]; exact k1
  have q2 : W.cell? ⟨g, 2, none⟩ = some (.int .i64 ch) := by rw [← hW]; exact k2
  have g0 : W.frozen? ⟨g, 0, none⟩ = false := by rw [← hW]; exact f0
  have HVW := Lib.hid (hWk ▸ HV.out : W.heap[g]? = some (.cells #[.slice A rows.length c, .int .i64 lv, .int .i64 ch] 30 (0, 0)))
  have HOW := Lib.hid (show Kd.R k61 61 W B (fun _ => True) (.slice A rows.length c) rows by rw [← hW]; exact Kd.R_drewN HO.out nd)
  have HWB := Lib.hid (show RKeep B g w W by rw [← hW]; exact RKeep.of_but (B := 0) (keep_drewN (KeepBut.refl w g none) _) (pw_below_drewN (Below.refl _ _) _))
  have hne : some g ≠ (Value.slice A rows.length c).ownBlock := Kd.R_ne HO.out HV.out (by decide)
  have n1 : W.heap.size ≠ g := by rw [hWk]; exact n0
  have hlt2 : g < W.heap.size := by rw [hWk]; exact hlt
  have HS0 := Lib.hid (show B ≤ W.heap.size from Nat.le_trans HBG.out (Nat.le_of_lt hlt2))
  clear k0 k1 k2 f0 b1 hW hWk n0 hlt
  have hz2 : W.drew.heap.size = W.heap.size := rfl
  go_region_law
    ((rw [show (W.alloc (.cells #[.int .i64 lv, .int .i64 ch, .string s] 61)).drew = (W.drew).alloc (.cells #[.int .i64 lv, .int .i64 ch, .string s] 61) from rfl]; refine Kd.R_append_step k61 (w0 := _) B (by rfl) (.tmp 29) (.tmp 40) 28 61 (.agg #[.int .i64 0, .int .i64 0, .string ⟨#[]⟩]) 32 (by rfl) Try.underlying28 rowInfo rfl (by decide) (by omega) (.slice A rows.length c) rows (⟨lv, ch, s⟩ : S61) [.int .i64 lv, .int .i64 ch, .string s] (fun _ => True) (fun _ => False) (by rfl) (by rfl) (k61_mkM _ _ _ (⟨lv, ch, s⟩ : S61)) (fun _ hk => hk.elim) (fun _ _ => trivial) (by (with_reducible repeat (first | apply Kd.R_alloc | apply Kd.R_drewN | apply Kd.R_drew)); exact HOW.out) (Below.refl _ _) HS0.out HCAP.out ?_; intro v1 w1 hv1 hb1 hg1 hat1; obtain ⟨A1, c1, rfl⟩ := Kd.R_slice hv1; have hgw := drew_grown0 hg1; have HGW := Lib.hid hgw; have j1 := World.grownBy.cell hgw q0 hne; have j2 := (World.frozen?_of_block (a := ⟨g, 0, none⟩) (hgw.block g hlt2 hne)).trans g0; have HR1 := Lib.hid hv1; clear hv1 hb1 hg1 hat1 hgw))
  all_goals
    have el : (rows ++ [(⟨lv, ch, s⟩ : S61)]).length = rows.length + 1 := by simp
    have hr := HR1.out
    rw [el] at hr
    have hfin := IsR.grow HVW.out HOW.out HBG.out HGW.out hr
    go_wp2
    go_ret
    exact ⟨rfl, hfin.1, HWB.out.trans hfin.2⟩

-- GIVEN rounds=1 making=1 needs=(*logbook/expr.Expr).And,(*logbook/logbookref26.Expr).Match,(*logbook/logbookref26.Expr).And
/-! ### logbooklaw26.does: by hand: two states -/
theorem IsR.xkeep {w w1 : World} {B g gx : Nat} {ok : Nat → Prop} {rows : List S61} {lv ch : Int} (h : IsR w B g rows lv ch) (hg : g ≠ gx) (hk : XKeep ok gx w w1) (hx : ∃ cs, w.heap[gx]? = some (.cells cs 49 (0, 0))) : IsR w1 B g rows lv ch := by
  obtain ⟨v, hv, ho, hB⟩ := h
  obtain ⟨cx, hcx⟩ := hx
  refine ⟨v, (hk.block g (blk_lt hv) hg (Or.inr ⟨_, _, hv, by decide, by decide, by decide⟩)).trans hv, Kd.R_mono (Kd.R_move (Kd.R_bound ho) (fun k hk2 => ?_)) (fun _ _ => trivial), hB⟩
  obtain ⟨_, _, hlt, q, hq, cs, hcs⟩ := hk2
  have hq61 : q = 61 := by
    have : q ∈ ([61] : List Nat) := hq
    simpa using this
  subst hq61
  refine hk.block k hlt (fun he => ?_) (Or.inr ⟨cs, 61, hcs, by decide, by decide, by decide⟩)
  subst he
  rw [hcs] at hcx
  injection hcx with hcx
  injection hcx with _ hcx
  exact absurd hcx (by decide)
theorem ExS.rkeep {w w1 : World} {B g gr : Nat} {ok : Nat → Prop} {L : List (List (List ByteArray))} {n : Int} (h : ExS w B g ok L n) (hg : g ≠ gr) (hk : RKeep B gr w w1) (hr : ∃ cs, w.heap[gr]? = some (.cells cs 30 (0, 0))) : ExS w1 B g ok L n := by
  obtain ⟨v, hv, ho, hB⟩ := h
  obtain ⟨cr, hcr⟩ := hr
  have ht : ∀ (k : Nat) (t : Nat) (cs : Array Value), w.heap[k]? = some (.cells cs t (0, 0)) → t ≠ 61 → ∀ cs', w.heap[k]? ≠ some (.cells cs' 61 (0, 0)) := fun k t cs h1 h2 cs' h3 => by
    rw [h1] at h3
    injection h3 with h3
    injection h3 with _ h3
    exact h2 h3
  refine ⟨v, (hk.block g (blk_lt hv) hg (Or.inr (ht g _ _ hv (by decide)))).trans hv, Kd.S_mono (Kd.S_move (Kd.S_bound ho) (fun k hk2 => ?_)) (fun _ h => h.1), hB⟩
  obtain ⟨_, _, hlt, q, hq, cs, hcs⟩ := hk2
  have hq2 : q = 23 ∨ q = 31 ∨ q = 9 := by
    have : q ∈ ([23, 31, 9] : List Nat) := hq
    simpa using this
  refine hk.block k hlt (fun he => ?_) (Or.inr (ht k q cs hcs (by rcases hq2 with rfl | rfl | rfl <;> decide)))
  subst he
  rw [hcs] at hcr
  injection hcr with hcr
  injection hcr with _ hcr
  rcases hq2 with rfl | rfl | rfl <;> exact absurd hcr (by decide)
/-- what is neither's lies as it lay -/
structure DKeep (B : Nat) (ok : Nat → Prop) (gx gr : Nat) (w w' : World) : Prop where
  os : w'.os = w.os
  tape : w'.tape = w.tape
  output : w'.output = w.output
  size : w.heap.size ≤ w'.heap.size
  block : ∀ k, k < w.heap.size → k ≠ gx → k ≠ gr → (¬ ok k ∨ ∃ cs t, w.heap[k]? = some (.cells cs t (0, 0)) ∧ t ≠ 9 ∧ t ≠ 31 ∧ t ≠ 23) → (k < B ∨ ∀ cs, w.heap[k]? ≠ some (.cells cs 61 (0, 0))) → w'.heap[k]? = w.heap[k]?
theorem DKeep.refl (B : Nat) (ok : Nat → Prop) (gx gr : Nat) (w : World) : DKeep B ok gx gr w w := ⟨rfl, rfl, rfl, Nat.le_refl _, fun _ _ _ _ _ _ => rfl⟩
theorem DKeep.trans {B : Nat} {ok : Nat → Prop} {gx gr : Nat} {a b c : World} (h : DKeep B ok gx gr a b) (k : DKeep B ok gx gr b c) : DKeep B ok gx gr a c :=
  ⟨k.os.trans h.os, k.tape.trans h.tape, k.output.trans h.output, Nat.le_trans h.size k.size, fun i hi h1 h2 h3 h4 => by
    have e := h.block i hi h1 h2 h3 h4
    refine (k.block i (Nat.lt_of_lt_of_le hi h.size) h1 h2 ?_ ?_).trans e
    · rw [e]; exact h3
    · rw [e]; exact h4⟩
theorem DKeep.ofX {B : Nat} {ok : Nat → Prop} {gx gr : Nat} {a b : World} (h : XKeep ok gx a b) : DKeep B ok gx gr a b := ⟨h.os, h.tape, h.output, h.size, fun i hi h1 _ h3 _ => h.block i hi h1 h3⟩
theorem DKeep.ofR {B : Nat} {ok : Nat → Prop} {gx gr : Nat} {a b : World} (h : RKeep B gr a b) : DKeep B ok gx gr a b := ⟨h.os, h.tape, h.output, h.size, fun i hi _ h2 _ h4 => h.block i hi h2 h4⟩
theorem DKeep.of_below {B : Nat} {ok : Nat → Prop} {gx gr : Nat} {a b : World} (h : Below a.heap.size a b) : DKeep B ok gx gr a b := ⟨h.os, h.tape, h.output, h.size, fun i hi _ _ _ _ => h.block i hi⟩
structure TwoS where
  L : List (List (List ByteArray))
  n : Int
  rows : List S61
  lv : Int
  ch : Int
def logbooklaw26_does.f (k : Nat) (kind : Int) (s : ByteArray) (t : TwoS) : Option (TwoS × Bool) :=
  if kind = 1 then (expr_Expr_Or.f t.L).bind fun L => (logbookref26_Expr_Or.f k t.rows t.lv t.ch).bind fun c => some (⟨L, t.n, t.rows, t.lv, c⟩, true)
  else if kind = 2 then (expr_Expr_And.f t.L).bind fun L => (logbookref26_Expr_And.f k t.rows t.lv t.ch).bind fun c => some (⟨L, t.n, t.rows, c.1, c.2⟩, true)
  else if kind = 3 then some (⟨[[[]]], 0, [], 0, 0⟩, true)
  else (expr_Expr_Match.f s t.L t.n).bind fun x => (logbookref26_Expr_Match.f k s t.rows t.lv t.ch).bind fun y => some (⟨x.1, x.2.1, y.1, t.lv, t.ch⟩, x.2.2 == y.2)
theorem logbooklaw26_does.mono : ∀ kind s t k, LeO (logbooklaw26_does.f k kind s t) (logbooklaw26_does.f (k + 1) kind s t) := fun kind s t k =>
  LeO.ite (LeO.bind (LeO.refl _) (fun _ => LeO.bind (logbookref26_Expr_Or.mono _ _ _ k) (fun _ => LeO.refl _)))
    (LeO.ite (LeO.bind (LeO.refl _) (fun _ => LeO.bind (logbookref26_Expr_And.mono _ _ _ k) (fun _ => LeO.refl _)))
      (LeO.ite (LeO.refl _) (LeO.bind (LeO.refl _) (fun _ => LeO.bind (logbookref26_Expr_Match.mono _ _ _ _ k) (fun _ => LeO.refl _)))))
/-- both states at a world -/
def Two (w : World) (B gx gr : Nat) (ok : Nat → Prop) (t : TwoS) : Prop := ExS w B gx ok t.L t.n ∧ IsR w B gr t.rows t.lv t.ch
theorem Two.ne {w : World} {B gx gr : Nat} {ok : Nat → Prop} {t : TwoS} (h : Two w B gx gr ok t) : gx ≠ gr := by
  obtain ⟨⟨v, hv, _⟩, ⟨u, hu, _⟩⟩ := h
  rintro rfl
  rw [hv] at hu
  injection hu with hu
  injection hu with _ hu
  exact absurd hu (by decide)
theorem Two.below {w w1 : World} {B gx gr : Nat} {ok : Nat → Prop} {t : TwoS} (h : Two w B gx gr ok t) (hb : Below w.heap.size w w1) : Two w1 B gx gr ok t := ⟨h.1.below hb, h.2.below hb⟩
theorem Two.bx {w : World} {B gx gr : Nat} {ok : Nat → Prop} {t : TwoS} (h : Two w B gx gr ok t) : ∃ cs, w.heap[gx]? = some (.cells cs 49 (0, 0)) := by
  obtain ⟨⟨v, hv, _⟩, _⟩ := h
  exact ⟨_, hv⟩
theorem Two.br {w : World} {B gx gr : Nat} {ok : Nat → Prop} {t : TwoS} (h : Two w B gx gr ok t) : ∃ cs, w.heap[gr]? = some (.cells cs 30 (0, 0)) := by
  obtain ⟨_, ⟨v, hv, _⟩⟩ := h
  exact ⟨_, hv⟩
theorem Two.drew {w : World} {B gx gr : Nat} {ok : Nat → Prop} {t : TwoS} (h : Two w B gx gr ok t) : Two w.drew B gx gr ok t := Two.below h (below_drew (Below.refl _ _))
theorem DKeep.drew {B : Nat} {ok : Nat → Prop} {gx gr : Nat} {a b : World} (h : DKeep B ok gx gr a b) : DKeep B ok gx gr a b.drew := ⟨h.os, h.tape, h.output, h.size, h.block⟩
/-- x's call, then r's -/
theorem Two.stepX {w w1 : World} {B gx gr : Nat} {ok : Nat → Prop} {t : TwoS} {L : List (List (List ByteArray))} {n : Int} (h : Two w B gx gr ok t) (hx : ExS w1 B gx ok L n) (hk : XKeep (fun k => ok k ∧ B ≤ k) gx w w1) : Two w1 B gx gr ok ⟨L, n, t.rows, t.lv, t.ch⟩ :=
  ⟨hx, IsR.xkeep h.2 h.ne.symm hk h.bx⟩
theorem Two.stepR {w w1 : World} {B gx gr : Nat} {ok : Nat → Prop} {t : TwoS} {rows : List S61} {lv ch : Int} (h : Two w B gx gr ok t) (hr : IsR w1 B gr rows lv ch) (hk : RKeep B gr w w1) : Two w1 B gx gr ok ⟨t.L, t.n, rows, lv, ch⟩ :=
  ⟨ExS.rkeep h.1 h.ne hk h.br, hr⟩
set_option maxHeartbeats 3200000 in
theorem does_calls (k : Nat) (B gx gr : Nat) (ok : Nat → Prop) (kind : Int) (s : ByteArray) (t t2 : TwoS) (b : Bool) (w : World) (hT : Two w B gx gr ok t) (hfr : ∀ k, w.heap.size ≤ k → ok k) (h : logbooklaw26_does.f k kind s t = some (t2, b)) :
    Calls Try.prog 9 #[.pointer (some ⟨gx, 0, none⟩), .pointer (some ⟨gr, 0, none⟩), .agg #[.int .i64 kind, .string s]] w fun e w' => e = .returned (.bool b) ∧ Two w' B gx gr ok t2 ∧ DKeep B (fun k => ok k ∧ B ≤ k) gx gr w w' := by
  unfold logbooklaw26_does.f at h
  have HT := Lib.hid (hT.below (below_alloc (Below.refl _ _) (.cells #[.int .i64 kind, .string s] 35)))
  have HD0 := Lib.hid (DKeep.of_below (B := B) (ok := fun k => ok k ∧ B ≤ k) (gx := gx) (gr := gr) (below_alloc (Below.refl w.heap.size w) (.cells #[.int .i64 kind, .string s] 35)))
  have HFR := Lib.hid (show ∀ k, (w.alloc (.cells #[.int .i64 kind, .string s] 35)).heap.size ≤ k → ok k from fun k hk => hfr k (by rw [World.size_alloc] at hk; exact Nat.le_of_succ_le hk))
  by_cases h1 : kind = 1
  · rw [if_pos h1] at h
    subst h1
    cases ho : expr_Expr_Or.f t.L with
    | none => rw [ho] at h; cases h
    | some L2 =>
    rw [ho] at h
    cases hc : logbookref26_Expr_Or.f k t.rows t.lv t.ch with
    | none =>
      have h : (logbookref26_Expr_Or.f k t.rows t.lv t.ch).bind _ = _ := h
      rw [hc] at h
      cases h
    | some c2 =>
    have h : (logbookref26_Expr_Or.f k t.rows t.lv t.ch).bind _ = _ := h
    rw [hc] at h
    cases h
    have HO := Lib.hid ho
    have HC := Lib.hid hc
    clear ho hc hT hfr
    go_enter Try.func9, Try.ntmps9
    go_wp2_with (first
      | (go_at_call 15; (refine (expr_Expr_Or.calls t.L t.n B gx ok L2 _ HT.out.1 HFR.out HO.out).mono ?_); rintro e w2 ⟨rfl, hx, hk⟩; have HT2 := Lib.hid (HT.out.stepX hx hk); have HD2 := Lib.hid (HD0.out.trans (DKeep.ofX hk)); clear hx hk)
      | (go_at_call 22; (refine (or_R k B gr t.rows t.lv t.ch c2 _ HT2.out.2 HC.out).mono ?_); rintro e w3 ⟨rfl, hr, hk⟩; have HT3 := Lib.hid (HT2.out.stepR hr hk); have HD3 := Lib.hid (HD2.out.trans (DKeep.ofR hk)); clear hr hk))
    go_ret
    exact ⟨rfl, HT3.out, HD3.out⟩
  rw [if_neg h1] at h
  by_cases h2 : kind = 2
  · rw [if_pos h2] at h
    subst h2
    cases ho : expr_Expr_And.f t.L with
    | none => rw [ho] at h; cases h
    | some L2 =>
    rw [ho] at h
    cases hc : logbookref26_Expr_And.f k t.rows t.lv t.ch with
    | none =>
      have h : (logbookref26_Expr_And.f k t.rows t.lv t.ch).bind _ = _ := h
      rw [hc] at h
      cases h
    | some c2 =>
    have h : (logbookref26_Expr_And.f k t.rows t.lv t.ch).bind _ = _ := h
    rw [hc] at h
    cases h
    have HO := Lib.hid ho
    have HC := Lib.hid hc
    clear ho hc hT hfr
    go_enter Try.func9, Try.ntmps9
    go_wp2_with (first
      | (go_at_call 14; (refine (expr_Expr_And.calls t.L t.n B gx ok L2 _ HT.out.1 HFR.out HO.out).mono ?_); rintro e w2 ⟨rfl, hx, hk⟩; have HT2 := Lib.hid (HT.out.stepX hx hk); have HD2 := Lib.hid (HD0.out.trans (DKeep.ofX hk)); clear hx hk)
      | (go_at_call 23; (refine (and_R k B gr t.rows t.lv t.ch c2 _ HT2.out.2 HC.out).mono ?_); rintro e w3 ⟨rfl, hr, hk⟩; have HT3 := Lib.hid (HT2.out.stepR hr hk); have HD3 := Lib.hid (HD2.out.trans (DKeep.ofR hk)); clear hr hk))
    go_ret
    exact ⟨rfl, HT3.out, HD3.out⟩
  rw [if_neg h2] at h
  by_cases h3 : kind = 3
  · rw [if_pos h3] at h
    subst h3
    cases h
    clear hT hfr
    go_enter Try.func9, Try.ntmps9
    go_wp2_with (first
      | (go_at_call 19; (refine (expr_Expr_Flush.calls t.L t.n B gx ok _ HT.out.1 HFR.out).mono ?_); rintro e w2 ⟨rfl, hx, hk⟩; have hT2 := HT.out.stepX hx hk; obtain ⟨A2, c2, hv2, ho2, hB2⟩ := hT2.2.open_; have HV2 := Lib.hid hv2; have HO2 := Lib.hid ho2; have HB2 := Lib.hid hB2; have j0 := blk_cell hv2 0; have j1 := blk_cell hv2 1; have j2 := blk_cell hv2 2; have g0 := blk_frozen hv2 0; have g1 := blk_frozen hv2 1; have g2 := blk_frozen hv2 2; simp at j0 j1 j2; have HT2 := Lib.hid hT2; have HD2 := Lib.hid (HD0.out.trans (DKeep.ofX hk)); clear hx hk hv2 ho2 hB2 hT2))
    go_ret
    have b3 := blk_put (blk_put (blk_put HV2.out 0 (.slice none 0 0) rfl) 1 (.int .i64 0) rfl) 2 (.int .i64 0) rfl
    have hk3 : RKeep B gr w2 (((w2.setCell ⟨gr, 0, none⟩ (.slice none 0 0)).setCell ⟨gr, 1, none⟩ (.int .i64 0)).setCell ⟨gr, 2, none⟩ (.int .i64 0)) := RKeep.own.trans (RKeep.own.trans RKeep.own)
    exact ⟨rfl, Two.stepR HT2.out (rows := []) ⟨_, b3, Kd.R_nil _ _ _ _ _, HB2.out⟩ hk3, HD2.out.trans (DKeep.ofR hk3)⟩
  rw [if_neg h3] at h
  cases ho : expr_Expr_Match.f s t.L t.n with
  | none => rw [ho] at h; cases h
  | some x =>
  rw [ho] at h
  obtain ⟨Lx, nx, ex⟩ := x
  cases hc : logbookref26_Expr_Match.f k s t.rows t.lv t.ch with
  | none =>
    have h : (logbookref26_Expr_Match.f k s t.rows t.lv t.ch).bind _ = _ := h
    rw [hc] at h
    cases h
  | some y =>
  have h : (logbookref26_Expr_Match.f k s t.rows t.lv t.ch).bind _ = _ := h
  rw [hc] at h
  cases h
  obtain ⟨ry, ey⟩ := y
  have HO := Lib.hid ho
  have HC := Lib.hid hc
  have hbx := blk_new w (.cells #[.int .i64 kind, .string s] 35)
  have HBX := Lib.hid hbx
  have hgx : gx ≠ w.heap.size := fun he => by
    obtain ⟨cs, hcs⟩ := hT.bx
    have := blk_lt hcs
    omega
  have hgr : gr ≠ w.heap.size := fun he => by
    obtain ⟨cs, hcs⟩ := hT.br
    have := blk_lt hcs
    omega
  have kb1 := blk_cell hbx 1
  simp at kb1
  have KB1 := Lib.hid kb1
  have e1 : ¬ kind = 1 := h1
  clear ho hc hT hfr hbx kb1
  go_enter Try.func9, Try.ntmps9
  go_wp2
  have kb1 := KB1.out
  go_region_held3 (fun w' => w'.cell? ⟨w.heap.size, 1, none⟩ = some (.string s))
    (first | assumption | go_keep)
    (first
    | (go_at_call 18; (refine (expr_Expr_Match.calls s t.L t.n B gx ok Lx nx ex _ (Two.drew HT.out).1 HFR.out HO.out).mono ?_); rintro e w2 ⟨rfl, hx, hk⟩; have HT2 := Lib.hid ((Two.drew HT.out).stepX hx hk); have HD2 := Lib.hid ((DKeep.drew HD0.out).trans (DKeep.ofX hk)); have hbx2 := (hk.block w.heap.size (blk_lt HBX.out) (Ne.symm hgx) (Or.inr ⟨_, _, HBX.out, by decide, by decide, by decide⟩)).trans HBX.out; have HBX2 := Lib.hid hbx2; have kb2 := blk_cell hbx2 1; simp at kb2; clear hx hk hbx2)
    | (go_at_call 24; (refine (match_R k B gr s t.rows t.lv t.ch (ry, ey) _ HT2.out.2 HC.out).mono ?_); rintro e w3 ⟨rfl, hr, hk⟩; have HT3 := Lib.hid (HT2.out.stepR hr hk); have HD3 := Lib.hid (HD2.out.trans (DKeep.ofR hk)); have hbx3 := (hk.block w.heap.size (blk_lt HBX2.out) (Ne.symm hgr) (Or.inr (fun cs he => by rw [HBX2.out] at he; injection he with he; injection he with _ he; exact absurd he (by decide)))).trans HBX2.out; have kb3 := blk_cell hbx3 1; simp at kb3; clear hr hk hbx3))
  all_goals
    go_wp2
    go_ret
    exact ⟨rfl, HT3.out, HD3.out⟩

/-! ### logbookref04_Field: function 32 -/
def logbookref04_Field.f (k : Nat) (a0 : ByteArray) : Option (ByteArray) := (logbookref04_Split.f k a0).bind fun bt159 => (some bt159.1)
theorem logbookref04_Field.mono : ∀ a0 k, LeO (logbookref04_Field.f k a0) (logbookref04_Field.f (k + 1) a0) := by
  intro a0 k
  unfold logbookref04_Field.f
  repeat' first
      | (with_reducible exact logbookref04_Split.mono _ _)
      | (with_reducible exact LeO.refl _)
      | (with_reducible exact LeO.none _)
      | (with_reducible refine LeO.ite ?_ ?_)
      | (with_reducible refine LeO.bind ?_ (fun _ => ?_))
      | exact logbookref04_Split.mono _ _
      | exact LeO.none _
      | refine LeO.ite ?_ ?_
      | refine LeO.bind ?_ (fun _ => ?_)
set_option maxHeartbeats 8000000 in
set_option maxRecDepth 100000 in
theorem logbookref04_Field.calls (k : Nat) (a0 : ByteArray) (r : ByteArray) (w : World) (h : logbookref04_Field.f k a0 = some r) :
    Calls Try.prog 32 #[.string a0] w fun e w' => e = .returned (.string r) ∧ Drawn0 w w' := by
  have H : ((logbookref04_Split.f k a0).bind fun bt159 => (some bt159.1)) = some r := h
  clear h
  replace H := Option.bind_eq_some_iff.mp H
  obtain ⟨⟨t159, t160, t161⟩, A20, H⟩ := H
  replace H : (some t159) = some r := H
  have A2 := Aside0.mk A20
  clear A20
  obtain rfl := Option.some.inj H
  go_enter Try.func32, Try.ntmps32
  go_wp2_with (first | ((with_reducible refine gate_callee (f := 20) rfl ?_); refine goesL_ (some 8) rfl rfl Try.func20 (by kernel_rfl) rfl #[.string a0] rfl (by (try simp only [List.map_toArray, List.map_cons, List.map_nil]); first | done | rfl | (simp only [List.length_drop, List.length_take]; rfl)) ?_; (with_reducible refine (logbookref04_Split.calls k a0 t159 t160 t161 _ A2.out).mono ?_); rintro e w' ⟨rfl, ⟨nd, rfl⟩⟩; refine ⟨_, rfl, ?_⟩))
  go_ret
  exact ⟨by first | rfl | (simp; done) | (simp [*]; done) | exact isEmpty_bne _, by repeat (first | exact Drawn0.refl _ | apply Drawn0.step)⟩

/-! ### logbookref04_Has: function 38 -/
def logbookref04_Has.l0 : Nat → List ByteArray → ByteArray → Int → Option (Bool)
  | 0, _, _, _ => none
  | k + 1, x0, x1, x5 => if x5 < (x0.length : Int) then (if 0 ≤ x5 then (if (rdOf ByteArray.empty x0 x5).toList = x1.toList then (some true) else (logbookref04_Has.l0 k x0 x1 (wrap64 (x5 + 1)))) else (none)) else (some false)
def logbookref04_Has.f (k : Nat) (l0 : List ByteArray) (a1 : ByteArray) : Option (Bool) := logbookref04_Has.l0 k l0 a1 0
theorem logbookref04_Has.mono_l : ∀ k, (∀ y0 y1 y2, LeO (logbookref04_Has.l0 k y0 y1 y2) (logbookref04_Has.l0 (k + 1) y0 y1 y2))
  | 0 => fun _ _ _ r h => by simp [logbookref04_Has.l0] at h
  | k + 1 => by
    have ih0 := logbookref04_Has.mono_l k
    · intro y0 y1 y2
      unfold logbookref04_Has.l0
      repeat' first
      | (with_reducible exact ih0 _ _ _)
      | (with_reducible exact LeO.refl _)
      | (with_reducible exact LeO.none _)
      | (with_reducible refine LeO.ite ?_ ?_)
      | (with_reducible refine LeO.bind ?_ (fun _ => ?_))
      | exact ih0 _ _ _
      | exact LeO.none _
      | refine LeO.ite ?_ ?_
      | refine LeO.bind ?_ (fun _ => ?_)
theorem logbookref04_Has.mono : ∀ a0 a1 k, LeO (logbookref04_Has.f k a0 a1) (logbookref04_Has.f (k + 1) a0 a1) := by
  intro a0 a1 k
  have ih0 := logbookref04_Has.mono_l k
  unfold logbookref04_Has.f
  repeat' first
      | (with_reducible exact ih0 _ _ _)
      | (with_reducible exact LeO.refl _)
      | (with_reducible exact LeO.none _)
      | (with_reducible refine LeO.ite ?_ ?_)
      | (with_reducible refine LeO.bind ?_ (fun _ => ?_))
      | exact ih0 _ _ _
      | exact LeO.none _
      | refine LeO.ite ?_ ?_
      | refine LeO.bind ?_ (fun _ => ?_)
set_option maxHeartbeats 8000000 in
set_option maxRecDepth 100000 in
theorem logbookref04_Has.calls (k : Nat) (A0 : Option Addr) (c0 : Nat) (l0 : List ByteArray) (a1 : ByteArray) (r : Bool) (w : World) (hr0 : Kd.C Kd.string w A0 l0.length l0) (hc0 : l0.length ≤ c0) (h : logbookref04_Has.f k l0 a1 = some r) :
    Calls Try.prog 38 #[.slice A0 l0.length c0, .string a1] w fun e w' => e = .returned (.bool r) ∧ Drawn0 w w' := by
  have HR0 := Aside0.mk hr0
  have HC0 := Aside0.mk hc0
  clear hr0 hc0
  have H : (logbookref04_Has.l0 k l0 a1 0) = some r := h
  clear h
  have H' := Aside0.mk H
  clear H
  go_enter Try.func38, Try.ntmps38
  go_wp2
  go_loopg [5] k (fun kq v5 w' => ∃ (x5_1 : Int), v5 = .int .i64 x5_1 ∧ Aside0 (logbookref04_Has.l0 kq l0 a1 x5_1 = some r) ∧ Aside0 (kq ≤ k) ∧ Drawn0 w w')
  case atStart => exact ⟨(0), (by first | rfl | (simp; done) | (simp [*]; done) | exact isEmpty_bne _), H', ⟨Nat.le_refl _⟩, by repeat (first | exact Drawn0.refl _ | apply Drawn0.step)⟩
  case round =>
    clear H'
    try clear p2
    obtain ⟨x5_1, rfl, HA, HK1, ⟨m1, rfl⟩⟩ := hrel
    cases gk with
    | zero => exact absurd HA.out (by simp [logbookref04_Has.l0])
    | succ k1 =>
      have H := HA.out
      clear HA
      simp only [logbookref04_Has.l0] at H
      by_cases c3 : x5_1 < (l0.length : Int)
      · rw [if_pos c3] at H
        have c3b0 : decide (x5_1 < (l0.length : Int)) = true := decide_eq_true c3
        clear c3
        by_cases c4 : 0 ≤ x5_1
        · rw [if_pos c4] at H
          have c4b0 : decide (0 ≤ x5_1) = true := decide_eq_true c4
          clear c4
          by_cases c5 : (rdOf ByteArray.empty l0 x5_1).toList = a1.toList
          · rw [if_pos c5] at H
            have c5b0 : ((rdOf ByteArray.empty l0 x5_1).toList == a1.toList) = true := beq_iff_eq.mpr c5
            have c5b1 : ((rdOf ByteArray.empty l0 x5_1).toList != a1.toList) = false := bne_eq_false_iff_eq.mpr c5
            clear c5
            obtain rfl := Option.some.inj H
            have p162 : 0 ≤ (x5_1 : Int) := of_decide_eq_true (by first | (with_reducible assumption) | assumption)
            have q162 : x5_1 < (l0.length : Int) := of_decide_eq_true (by first | (with_reducible assumption) | assumption)
            obtain ⟨ad162, e162, hx162_0⟩ := Kd.at_string HR0.out x5_1 p162 q162
            cases e162
            replace p162 := eq_true p162
            replace q162 := eq_true q162
            go_wp2
            go_ret
            exact ⟨by first | rfl | (simp; done) | (simp [*]; done) | exact isEmpty_bne _, by repeat (first | exact Drawn0.refl _ | apply Drawn0.step)⟩
          · rw [if_neg c5] at H
            have c5b0 : ((rdOf ByteArray.empty l0 x5_1).toList == a1.toList) = false := beq_eq_false_iff_ne.mpr c5
            have c5b1 : ((rdOf ByteArray.empty l0 x5_1).toList != a1.toList) = true := bne_iff_ne.mpr c5
            have H' := Aside0.mk H
            clear H
            have p162 : 0 ≤ (x5_1 : Int) := of_decide_eq_true (by first | (with_reducible assumption) | assumption)
            have q162 : x5_1 < (l0.length : Int) := of_decide_eq_true (by first | (with_reducible assumption) | assumption)
            obtain ⟨ad162, e162, hx162_0⟩ := Kd.at_string HR0.out x5_1 p162 q162
            cases e162
            replace p162 := eq_true p162
            replace q162 := eq_true q162
            go_wp2
            go_roundg k1
            case measure => have := HK1.out; omega
            case rel => exact ⟨(wrap64 (x5_1 + 1)), (by first | rfl | (simp; done) | (simp [*]; done) | exact isEmpty_bne _), H', ⟨by have := HK1.out; omega⟩, by repeat (first | exact Drawn0.refl _ | apply Drawn0.step)⟩
        · rw [if_neg c4] at H
          exact absurd H (by simp)
      · rw [if_neg c3] at H
        have c3b0 : decide (x5_1 < (l0.length : Int)) = false := decide_eq_false c3
        clear c3
        obtain rfl := Option.some.inj H
        go_wp2
        go_ret
        exact ⟨by first | rfl | (simp; done) | (simp [*]; done) | exact isEmpty_bne _, by repeat (first | exact Drawn0.refl _ | apply Drawn0.step)⟩

end Go.Proofs.Ytajlgbonapfckaa.PExprAsks
